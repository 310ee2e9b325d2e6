/- Own texts, merged: WalkI3, Drop, Reduce, WalkS3, WalkI4, WalkS4, WalkS5, Trod, Open, Trod2, WalkIn, FlexPure, Levels, LevelsForWalk, Door. -/
import Derived.Test.YtnhidomgpbohiaaM2
import Derived.Deep.Slices
import Derived.Lib.SmallJoins
import Derived.OpenShut
import Derived.ShutString
import Derived.ChangeOld
import Derived.Carry
import Derived.ProofKit
import Derived.Test.YtnhidomgpbohiaaRows
import Derived.KernelRfl
import Derived.JoinedOf
set_option linter.unusedVariables false
section
/- Walk problems, the program: distances, the period of a component. -/
namespace Go.Proofs.Ytnhidomgpbohiaa
open Go.GX Go.RowKit
set_option maxRecDepth 100000

/-- Lengths of walks from a label, -1 where none leads. -/
structure DistOk (E : Nat → Nat → Prop) (n a : Nat) (D : List Int) : Prop where
  len : D.length = n
  val : ∀ b (h : b < D.length), D[b] = -1 ∨ ∃ k : Nat, k ≤ n ∧ D[b] = k ∧ Wk E k a b
  all : ∀ b (h : b < D.length), (∃ k, Wk E k a b) → 0 ≤ D[b]
  zero : ∀ h : a < D.length, D[a] = 0

/-- What holds when lengths below k are done, and of length k the labels of a list. -/
structure DistS (E : Nat → Nat → Prop) (n a k : Nat) (L : List Int) (D : List Int) : Prop where
  len : D.length = n
  val : ∀ b (h : b < D.length), D[b] = -1 ∨ ∃ j : Nat, j ≤ n ∧ D[b] = j ∧ Wk E j a b
  low : ∀ b (h : b < D.length), ∀ j, j < k → Wk E j a b → 0 ≤ D[b]
  cur : ∀ b (h : b < D.length), (b : Int) ∈ L → 0 ≤ D[b]
  zero : ∀ h : a < D.length, D[a] = -1 ∨ D[a] = 0

theorem DistS.I64 {E : Nat → Nat → Prop} {n a k : Nat} {L D : List Int} (h : DistS E n a k L D) (hn : n ≤ 1000) : ∀ x ∈ D, I64 x := fun x hx => by
  obtain ⟨b, hb, rfl⟩ := List.mem_iff_getElem.1 hx
  rcases h.val b hb with he | ⟨j, hj, he, _⟩
  · rw [he]; unfold GX.I64; omega
  · rw [he]; unfold GX.I64; omega
theorem DistOk.I64 {E : Nat → Nat → Prop} {n a : Nat} {D : List Int} (h : DistOk E n a D) (hn : n ≤ 1000) : ∀ x ∈ D, -1 ≤ x ∧ x ≤ n := fun x hx => by
  obtain ⟨b, hb, rfl⟩ := List.mem_iff_getElem.1 hx
  rcases h.val b hb with he | ⟨j, hj, he, _⟩
  · rw [he]; omega
  · rw [he]; omega

theorem distancesIn_ok {w : World} {s : Sl} {p : WPr} {a : Nat} (h : RWk w s p) (hg : WGood p) (ha : a < p.labels.toNat) :
    Calls Try.prog F.i_WalkProblem_distancesIn #[.agg #[.int .i64 p.labels, s.v], .int .i64 a] w (Ret [.at .sl] fun (r : Sl) w' => Ext w w' ∧ ∃ D, OwnL w' w.heap.size T.t_int r D ∧ DistOk (arcE p.arcs) p.labels.toNat a D) := by
  refine C_i_WalkProblem_distancesIn ?_
  unfold V_i_WalkProblem_distancesIn
  refine NEW_intro fun pp w1 hp1 hs1 hE1 hb1 => ?_
  have hl := hg.lab
  obtain ⟨n, hn⟩ : ∃ n : Nat, p.labels = n := ⟨p.labels.toNat, by omega⟩
  have hnt : p.labels.toNat = n := by omega
  have hn12 : n ≤ 12 := by omega
  have hrel : ∀ x y, arcE p.arcs x y → y < n := fun x y hxy => by have := (hg.rel hxy).2; omega
  rw [hnt] at ha ⊢
  refine RUN_lit1 (α := Int) slt_int (-1) rfl (by decide) fun y w2 hE2 hO2 => LD_bi0 (hb1.ext hE2) ?_
  have hcallR := repeat_ok (n := n) (hO2.rep (by intro x hx; rw [List.mem_singleton.1 hx]; show I64 _; unfold GX.I64; omega)).any (show I64 (-1) by unfold GX.I64; omega) (by omega)
  rw [← hn] at hcallR
  refine call hcallR ?_
  rintro r w3 ⟨hE3, hO3⟩
  have hE13 := hE2.trans hE3
  have hE03 := hE1.trans hE13
  have hb3 := hb1.ext hE13
  have hz1 := hE1.size_le
  have hz2 := hE2.size_le
  refine LD_is hb3 (LD_bi0 hb3 ?_)
  have hcall := reached_ok (a := a) (m := n) (h.ext hE03) hg (by omega) (by omega)
  rw [← hn] at hcall
  refine call hcall ?_
  rintro t w4 ⟨hE4, hO4⟩
  rw [hnt] at hO4
  have hz3 := hE3.size_le
  have hz4 := hE4.size_le
  have hE04 := hE03.trans hE4
  have hRt := (hO4.rep (reachL_I64 hn12)).any
  rw [hRt.len, reachL_len]
  have hext : ∀ {w' : World}, Chg w4 w' (oB r) → Ext w w' := fun hC => hC.ext0 hE04 fun k hk => by have := (hO3.blk _ hk).1; omega
  refine ⟨IN (n + 1) fun k w' => Chg w4 w' (oB r) ∧ ∃ D, OwnL w' w2.heap.size T.t_int r D ∧ DistS (arcE p.arcs) n a k [] D ∧ (∀ ha : a < D.length, 1 ≤ k → D[a] = 0), MN (n + 1), IN_zero ⟨Chg.refl _ _, List.replicate n (-1), hO3.ext hE4, ⟨by simp, fun b hb => .inl (by simp), fun b hb j hj => by omega, fun b hb hm => by simp at hm, fun h => .inl (by simp)⟩, fun _ h1 => by omega⟩, ?_⟩
  rintro _ w5 ⟨k, rfl, hk, hC5, D, hO5, hD, hDz⟩
  intros
  refine cond_dec (fun hlt => ?_) (fun hge => ?_)
  · have hk' : k < n + 1 := by omega
    have hRt5 : R w5 t (reachL (arcE p.arcs) n a (n + 1)) := ((hO4.rep (reachL_I64 hn12)).chg hC5 fun b hb _ hDD => by
        have h1 := (hO3.blk _ hDD).2
        have h2 : w3.heap.size ≤ b := hb
        omega).any
    have hkl : k < (reachL (arcE p.arcs) n a (n + 1)).length := by rw [reachL_len]; exact hk'
    refine hRt5.ixI hkl fun q _ hcq => LD_int hcq ?_
    rw [reachL_get hkl]
    refine call (labels12_ok (maskP_small hn12 _) w5) ?_
    rintro u w6 ⟨hE6, hO6⟩
    generalize hL : labs (maskP n fun b => Wk (arcE p.arcs) k a b) = L at hO6
    have hL64 : ∀ x ∈ L, GX.I64 x := by subst hL; exact labs_I64 _
    have hLlen : L.length ≤ 12 := by subst hL; exact labs_len _
    have hLm : ∀ x, x ∈ L ↔ ∃ b : Nat, x = b ∧ b < n ∧ Wk (arcE p.arcs) k a b := by subst hL; exact fun x => mem_labsP hn12
    have hLs : L.Pairwise (· < ·) := by subst hL; exact labs_sorted _
    rw [(hO6.rep hL64).any.len]
    have hz5 := hC5.size
    refine ⟨IN L.length fun j w' => Chg w6 w' (oB r) ∧ ∃ D, OwnL w' w2.heap.size T.t_int r D ∧ DistS (arcE p.arcs) n a k (L.take j) D ∧ (∀ ha : a < D.length, 1 ≤ k → D[a] = 0), MN L.length, IN_zero ⟨Chg.refl _ _, D, hO5.ext hE6, by simpa using hD, hDz⟩, ?_⟩
    rintro _ w7 ⟨j, rfl, hj, hC7, D7, hO7, hD7, hDz7⟩
    intros
    refine cond_dec (fun hlt2 => ?_) (fun hge2 => ?_)
    · have hj' : j < L.length := by omega
      have hRu : R w7 u L := ((hO6.rep hL64).chg hC7 fun b hb _ hDD => by
        have h1 := (hO3.blk _ hDD).2
        have h2 : w5.heap.size ≤ b := hb
        omega).any
      refine hRu.ixI hj' fun q2 _ hc2 => LD_int hc2 ?_
      obtain ⟨b, hb, hbn, hbw⟩ := (hLm L[j]).1 (List.getElem_mem hj')
      rw [hb]
      have hbl : b < D7.length := by rw [hD7.len]; exact hbn
      have htake : L.take (j + 1) = L.take j ++ [(b : Int)] := by rw [List.take_succ_eq_append_getElem hj', hb]
      have hR7 := (hO7.rep (hD7.I64 (by omega))).any
      refine hR7.ixI hbl fun q3 _ hc3 => LD_int hc3 ?_
      refine cond_dec (fun hneg => ?_) (fun hnn => ?_)
      · refine IX_own hO7 hbl rfl fun q4 hq4 => ?_
        refine ST_own hO7 hbl hq4 (k : Int) rfl fun w8 hO8 hs8 => ?_
        refine IN_next (by omega) hj' ⟨hC7.trans (.of_step hs8 fun k hk => hk), D7.set b k, hO8, ⟨by rw [List.length_set]; exact hD7.len, fun c hc => ?_, fun c hc i hi hw => ?_, fun c hc hm => ?_, fun hc => ?_⟩, fun hc h1 => ?_⟩
        · rw [List.getElem_set]
          by_cases he : b = c
          · subst he; rw [if_pos rfl]; exact .inr ⟨k, by omega, rfl, hbw⟩
          · rw [if_neg he]; exact hD7.val c (by rw [List.length_set] at hc; exact hc)
        · rw [List.getElem_set]
          by_cases he : b = c
          · subst he; rw [if_pos rfl]; omega
          · rw [if_neg he]; exact hD7.low c (by rw [List.length_set] at hc; exact hc) i hi hw
        · rw [List.getElem_set]
          by_cases he : b = c
          · subst he; rw [if_pos rfl]; omega
          · rw [if_neg he]
            rw [htake] at hm
            refine hD7.cur c (by rw [List.length_set] at hc; exact hc) ?_
            rcases List.mem_append.1 hm with hm | hm
            · exact hm
            · exact absurd (by have := List.mem_singleton.1 hm; omega) he
        · rw [List.getElem_set]
          by_cases he : b = a
          · rw [if_pos he]
            subst he
            by_cases hk0 : k = 0
            · subst hk0; exact .inr rfl
            · have := hD7.low b hbl 0 (by omega) rfl
              omega
          · rw [if_neg he]; exact hD7.zero (by rw [List.length_set] at hc; exact hc)
        · rw [List.getElem_set]
          by_cases he : b = a
          · subst he
            have := hD7.low b hbl 0 (by omega) rfl
            omega
          · rw [if_neg he]; exact hDz7 (by rw [List.length_set] at hc; exact hc) h1
      · refine IN_next (by omega) hj' ⟨hC7, D7, hO7, ⟨hD7.len, hD7.val, hD7.low, fun c hc hm => ?_, hD7.zero⟩, hDz7⟩
        rw [htake] at hm
        rcases List.mem_append.1 hm with hm | hm
        · exact hD7.cur c hc hm
        · have : c = b := by have := List.mem_singleton.1 hm; omega
          subst this
          omega
    · have : j = L.length := by omega
      subst this
      rw [List.take_length] at hD7
      refine IN_next (by omega) hk' ⟨(hC5.trans (.of_ext hE6)).trans hC7, D7, hO7, ⟨hD7.len, hD7.val, fun c hc i hi hw => ?_, fun c hc hm => by simp at hm, hD7.zero⟩, fun hc _ => ?_⟩
      · by_cases hik : i = k
        · subst hik
          exact hD7.cur c hc ((hLm c).2 ⟨c, rfl, by rw [hD7.len] at hc; exact hc, hw⟩)
        · exact hD7.low c hc i (by omega) hw
      · by_cases hk1 : 1 ≤ k
        · exact hDz7 hc hk1
        · have : k = 0 := by omega
          subst this
          have h1 := hD7.cur a hc ((hLm a).2 ⟨a, rfl, ha, rfl⟩)
          rcases hD7.zero hc with h2 | h2
          · omega
          · exact h2
  · have : k = n + 1 := by omega
    subst this
    refine ⟨hext hC5, D, hO5.low (by omega), hD.len, hD.val, fun b hb hex => ?_, fun hh => hDz hh (by omega)⟩
    obtain ⟨j, hw⟩ := hex
    rcases Nat.eq_zero_or_pos j with rfl | hj
    · exact hD.low b hb 0 (by omega) hw
    · obtain ⟨j', _, h3, h4⟩ := hw.short hrel hj
      exact hD.low b hb j' (by omega) h4

/-! ### The greatest common divisor -/

theorem gcd_list {w : World} {s : Sl} {l : List Nat} (h : R w s (l.map fun x : Nat => (x : Int))) :
    Calls Try.prog F.i_gcd #[s.v] w (Ret [.at (.int .i64)] fun (x : Int) w' => Ext w w' ∧ x = ((l.foldl Nat.gcd 0 : Nat) : Int)) := by
  refine C_i_gcd ?_
  unfold V_i_gcd
  have hle : l.length ≤ 9223372036854775807 := by have := h.le; rwa [List.length_map] at this
  rw [h.len, List.length_map]
  refine ⟨IN2 l.length fun i (d : Int) w' => Ext w w' ∧ d = (((l.take i).foldl Nat.gcd 0 : Nat) : Int), MN2 l.length, IN2_zero ⟨Ext.refl _, rfl⟩, ?_⟩
  rintro _ _ w1 ⟨i, rfl, hi, hE1, rfl⟩
  intros
  refine cond_dec (fun hlt => ?_) (fun hge => ?_)
  · have hi' : i < l.length := by omega
    have hil : i < (l.map fun x : Nat => (x : Int)).length := by rw [List.length_map]; exact hi'
    refine (h.ext hE1).ixI hil fun q _ hc => LD_int hc ?_
    rw [List.getElem_map]
    have hf : (l.take (i + 1)).foldl Nat.gcd 0 = Nat.gcd ((l.take i).foldl Nat.gcd 0) l[i] := by
      rw [List.take_succ_eq_append_getElem hi', List.foldl_append]; rfl
    generalize hG : (l.take (i + 1)).foldl Nat.gcd 0 = G at hf
    refine ⟨fun (d n : Int) w' => Ext w1 w' ∧ ∃ u v : Nat, d = u ∧ n = v ∧ Nat.gcd u v = G, fun _ n _ => n.toNat, ⟨Ext.refl _, _, _, rfl, rfl, hf.symm⟩, ?_⟩
    rintro _ _ w2 ⟨hE2, u, v, rfl, rfl, hG2⟩
    intros
    refine cond_ne (fun hne => ⟨hne, fun w3 hE3 => ?_⟩) (fun heq => ?_)
    · have hv : 0 < v := by omega
      have e : Int.tmod (u : Int) (v : Int) = ((u % v : Nat) : Int) := by rw [Int.tmod_eq_emod_of_nonneg (by omega)]; rfl
      rw [e]
      have hm := Nat.mod_lt u hv
      refine ⟨⟨hE2.trans hE3, v, u % v, rfl, rfl, ?_⟩, by simp only [Int.toNat_natCast]; exact hm⟩
      rw [← hG2, Nat.gcd_comm u v, Nat.gcd_rec v u, Nat.gcd_comm]
    · have hv : v = 0 := by have : (v : Int) = 0 := heq; omega
      subst hv
      rw [Nat.gcd_zero_right] at hG2
      subst hG2
      exact IN2_next hle hi' ⟨hE1.trans hE2, by rw [hG]⟩
  · have : i = l.length := by omega
    subst this
    exact ⟨hE1, by rw [List.take_length]⟩

theorem gcd_ok {w : World} {s : Sl} {a b : Nat} (h : R w s [(a : Int), (b : Int)]) :
    Calls Try.prog F.i_gcd #[s.v] w (Ret [.at (.int .i64)] fun (x : Int) w' => Ext w w' ∧ x = (Nat.gcd a b : Nat)) := by
  refine call (gcd_list (l := [a, b]) h) ?_
  rintro x w' ⟨hE, rfl⟩
  exact ⟨hE, by simp⟩

/-! ### The period -/

theorem DistOk.pot {E : Nat → Nat → Prop} {n a : Nat} {D : List Int} (h : DistOk E n a D) (ha : a < n) (hE : ∀ x y, E x y → y < n) : D.getD a 0 = 0 ∧ ∀ b, Comp E a b → ∃ k : Nat, D.getD b 0 = k ∧ Wk E k a b := by
  have hal : a < D.length := by rw [h.len]; exact ha
  refine ⟨by rw [List.getD_eq_getElem?_getD, List.getElem?_eq_getElem hal, Option.getD_some]; exact h.zero hal, fun b hb => ?_⟩
  have hbn : b < n := by
    obtain ⟨k, hw⟩ := hb.1
    rcases Nat.eq_zero_or_pos k with rfl | hk
    · cases hw; exact ha
    · exact hw.lt hE hk
  have hbl : b < D.length := by rw [h.len]; exact hbn
  rw [List.getD_eq_getElem?_getD, List.getElem?_eq_getElem hbl, Option.getD_some]
  rcases h.val b hbl with he | ⟨k, _, he, hw⟩
  · have := h.all b hbl hb.1; omega
  · exact ⟨k, he, hw⟩

/-- A number whose divisors are those of some steps, and one step more. -/
theorem div_step {S : Nat → Nat → Prop} {P u v : Nat} {d : Nat → Int} (hP : ∀ g : Nat, g ∣ P ↔ ∀ x y, S x y → (g : Int) ∣ d x + 1 - d y) : ∀ g : Nat, g ∣ Nat.gcd P (d u + 1 - d v).natAbs ↔ ∀ x y, (S x y ∨ (x = u ∧ y = v)) → (g : Int) ∣ d x + 1 - d y := fun g => by
  rw [Nat.dvd_gcd_iff, hP g]
  constructor
  · rintro ⟨h1, h2⟩ x y (h | ⟨rfl, rfl⟩)
    · exact h1 x y h
    · exact Int.natAbs_dvd_natAbs.1 (by rw [Int.natAbs_natCast]; exact h2)
  · intro h
    exact ⟨fun x y hs => h x y (.inl hs), by have := Int.natAbs_dvd_natAbs.2 (h u v (.inr ⟨rfl, rfl⟩)); rwa [Int.natAbs_natCast] at this⟩

theorem gcd_bound {P x N : Nat} (hP : P ≤ N) (hx : x ≤ N) : Nat.gcd P x ≤ N := by
  rcases Nat.eq_zero_or_pos P with rfl | h
  · rw [Nat.gcd_zero_left]; exact hx
  · exact Nat.le_trans (Nat.gcd_le_left x h) hP

theorem abs_max {x : Int} : (if x < 0 - x then 0 - x else x) = (x.natAbs : Int) := by split <;> omega

theorem periodOf_ok {w : World} {s t : Sl} {p : WPr} {r : Nat} {C : List Int} (h : RWk w s p) (hg : WGood p) (hC : R w t C) (h0 : 0 < C.length) (hr : C[0] = (r : Int)) (hrn : r < p.labels.toNat) (hm : ∀ b : Nat, (b : Int) ∈ C ↔ b < p.labels.toNat ∧ Comp (arcE p.arcs) r b) :
    Calls Try.prog F.i_WalkProblem_periodOf #[.agg #[.int .i64 p.labels, s.v], t.v] w (Ret [.at (.int .i64)] fun (x : Int) w' => Ext w w' ∧ ∃ P : Nat, x = P ∧ P ≤ 100 ∧ ∀ g : Nat, g ∣ P ↔ PerDiv (arcE p.arcs) r g) := by
  refine C_i_WalkProblem_periodOf ?_
  unfold V_i_WalkProblem_periodOf
  refine NEW_intro fun pp w1 hp1 hs1 hE1 hb1 => ?_
  intro w2 hE2 _
  have hE12 := hE1.trans hE2
  have hl := hg.lab
  have hrel : ∀ x y, arcE p.arcs x y → y < p.labels.toNat := fun x y hxy => (hg.rel hxy).2
  generalize hEe : arcE p.arcs = E at *
  have hb2 := hb1.ext hE2
  refine LD_is hb2 ⟨Ext.refl _, ?_⟩
  refine (hC.ext hE12).ixI (i := 0) h0 fun q _ hc => ⟨Ext.refl _, LD_int hc ⟨Ext.refl _, ?_⟩⟩
  rw [hr]
  refine call (distancesIn_ok (h.ext hE12) hg hrn) ?_
  rintro u w3 ⟨hE3, D, hO3, hD⟩
  rw [hEe] at hD
  obtain ⟨hz, hpot⟩ := hD.pot hrn hrel
  have hD64 := hD.I64 (by omega)
  have hE13 := hE12.trans hE3
  have hRD : R w3 u D := (hO3.rep fun x hx => by have := hD64 x hx; show I64 x; unfold GX.I64; omega).any
  refine LD_bs1 (hb2.ext hE3) ?_
  rw [h.arcs.len]
  have hdl := hD.len
  let d : Nat → Int := fun b => D.getD b 0
  have hdb : ∀ b, b < D.length → -1 ≤ d b ∧ d b ≤ p.labels.toNat ∧ D[b]? = some (d b) := fun b hb => by
    have e : d b = D[b] := by show D.getD b 0 = _; rw [List.getD_eq_getElem?_getD, List.getElem?_eq_getElem hb]; rfl
    rw [e]
    have := hD64 _ (List.getElem_mem hb)
    exact ⟨this.1, this.2, List.getElem?_eq_getElem hb⟩
  refine ⟨IN2 p.arcs.length fun i (x : Int) w' => Ext w3 w' ∧ ∃ P : Nat, x = P ∧ P ≤ 100 ∧ ∀ g : Nat, g ∣ P ↔ ∀ a b, (arcE (p.arcs.take i) a b ∧ Comp E r a ∧ Comp E r b) → (g : Int) ∣ d a + 1 - d b, MN2 p.arcs.length, IN2_zero ⟨Ext.refl _, 0, rfl, by omega, fun g => by simp [arcE]⟩, ?_⟩
  rintro _ _ w4 ⟨i, rfl, hi, hE4, P, rfl, hP100, hP⟩
  intros
  refine cond_dec (fun hlt => ?_) (fun hge => ?_)
  · have hi' : i < p.arcs.length := by omega
    refine (h.arcs.ext (hE13.trans hE4)).ixL hi' fun q2 row hrow hcr => LD_sl hcr ?_
    obtain ⟨a, b, he, ha, hb⟩ := hg.arc (List.getElem_mem hi')
    rw [he] at hrow
    have hCx := hC.ext (hE13.trans hE4)
    have hstep : ∀ x y, arcE (p.arcs.take (i + 1)) x y ↔ arcE (p.arcs.take i) x y ∨ (x = a ∧ y = b) := fun x y => by
      unfold arcE
      rw [List.take_succ_eq_append_getElem hi', he, List.mem_append, List.mem_singleton]
      simp only [List.cons.injEq, and_true, Int.natCast_inj]
    refine hrow.any.ixI (i := 0) (by simp) fun q3 _ hc3 => LD_int hc3 ?_
    refine call (contains_ok hCx _) ?_
    rintro _ _ ⟨rfl, rfl⟩
    have skip : ¬ (Comp E r a ∧ Comp E r b) → IN2 p.arcs.length (fun i (x : Int) w' => Ext w3 w' ∧ ∃ P : Nat, x = P ∧ P ≤ 100 ∧ ∀ g : Nat, g ∣ P ↔ ∀ a b, (arcE (p.arcs.take i) a b ∧ Comp E r a ∧ Comp E r b) → (g : Int) ∣ d a + 1 - d b) (P : Int) (IntKind.i64.wrap ((i : Int) + 1)) w4 ∧ MN2 p.arcs.length (P : Int) (IntKind.i64.wrap ((i : Int) + 1)) w4 < MN2 p.arcs.length (P : Int) (i : Int) w4 := fun hno =>
      IN2_next h.arcs.le hi' ⟨hE4, P, rfl, hP100, fun g => (hP g).trans ⟨fun hh x y ⟨h1, h2, h3⟩ => by
        rcases (hstep x y).1 h1 with h4 | ⟨rfl, rfl⟩
        · exact hh x y ⟨h4, h2, h3⟩
        · exact absurd ⟨h2, h3⟩ hno, fun hh x y ⟨h1, h2⟩ => hh x y ⟨(hstep x y).2 (.inl h1), h2⟩⟩⟩
    have hmem : ∀ c : Nat, c < p.labels.toNat → (C.contains (c : Int) = true ↔ Comp E r c) := fun c hcn => by
      rw [List.contains_iff_mem, hm c]
      exact ⟨fun hh => hh.2, fun hh => ⟨hcn, hh⟩⟩
    refine cond_b (fun ht => ?_) (fun hf => skip fun hh => ?_)
    · refine hrow.any.ixI (i := 1) (by simp) fun q4 _ hc4 => LD_int hc4 ?_
      refine call (contains_ok hCx _) ?_
      rintro _ _ ⟨rfl, rfl⟩
      refine cond_b (fun ht2 => ?_) (fun hf => skip fun hh => ?_)
      · have hca := (hmem a ha).1 ht
        have hcb := (hmem b hb).1 ht2
        refine hrow.any.ixI (i := 0) (by simp) fun q5 _ hc5 => LD_int hc5 ?_
        have hal : a < D.length := by rw [hdl]; exact ha
        have hbl : b < D.length := by rw [hdl]; exact hb
        have hRD4 := hRD.ext hE4
        refine hRD4.ixI (i := a) hal fun q6 _ hc6 => LD_int hc6 ?_
        refine hrow.any.ixI (i := 1) (by simp) fun q7 _ hc7 => LD_int hc7 ?_
        refine hRD4.ixI (i := b) hbl fun q8 _ hc8 => LD_int hc8 ?_
        intro w7 hE7
        obtain ⟨a1, a2, a3⟩ := hdb a hal
        obtain ⟨b1, b2, b3⟩ := hdb b hbl
        have ea : D[a] = d a := by rw [List.getElem?_eq_getElem hal] at a3; exact Option.some.inj a3
        have eb : D[b] = d b := by rw [List.getElem?_eq_getElem hbl] at b3; exact Option.some.inj b3
        rw [ea, eb, wrap_of (n := d a + 1) (by omega) (by omega), wrap_of (n := d a + 1 - d b) (by omega) (by omega), wrap_of (n := 0 - (d a + 1 - d b)) (by omega) (by omega)]
        refine RUN_max ?_
        rw [abs_max]
        have hx100 : (d a + 1 - d b).natAbs ≤ 100 := by omega
        refine RUN_lits slt_int [(P : Int), ((d a + 1 - d b).natAbs : Int)] (by simp) (by simp) rfl rfl fun y w9 hE9 hO9 => ?_
        refine call (gcd_ok (hO9.rep (by intro x hx; simp at hx; show I64 x; unfold GX.I64; rcases hx with rfl | rfl <;> omega)).any) ?_
        rintro _ w10 ⟨hE10, rfl⟩
        refine IN2_next h.arcs.le hi' ⟨((hE4.trans hE7).trans hE9).trans hE10, _, rfl, gcd_bound hP100 hx100, fun g => ?_⟩
        rw [div_step hP g]
        constructor
        · intro hh x y ⟨h1, h2, h3⟩
          rcases (hstep x y).1 h1 with h4 | ⟨rfl, rfl⟩
          · exact hh x y (.inl ⟨h4, h2, h3⟩)
          · exact hh x y (.inr ⟨rfl, rfl⟩)
        · rintro hh x y (⟨h1, h2⟩ | ⟨rfl, rfl⟩)
          · exact hh x y ⟨(hstep x y).2 (.inl h1), h2⟩
          · exact hh x y ⟨(hstep x y).2 (.inr ⟨rfl, rfl⟩), hca, hcb⟩
      · have := (hmem b hb).2 hh.2
        exact absurd (this.symm.trans hf) (by simp)
    · have := (hmem a ha).2 hh.1
      exact absurd (this.symm.trans hf) (by simp)
  · have : i = p.arcs.length := by omega
    subst this
    refine ⟨hE13.trans hE4, P, rfl, hP100, fun g => ?_⟩
    rw [hP g, List.take_length, hEe, ← pot_div (d := d) hz hpot g]
    exact ⟨fun hh x y h2 h3 h1 => hh x y ⟨h1, h2, h3⟩, fun hh x y ⟨h1, h2, h3⟩ => hh x y h2 h3 h1⟩

end Go.Proofs.Ytnhidomgpbohiaa
end

section
/- The least number that is free, and the rounds that drop a colour: DropColour, both sides. -/
namespace Go.Proofs.Ytnhidomgpbohiaa
open Go.GX Go.RowKit
set_option maxRecDepth 100000

/-- The least number that is not in a list. -/
def mex (l : List Int) : Nat := ((List.range (l.length + 1)).find? fun (u : Nat) => !l.contains (u : Int)).getD 0

theorem mex_le (l : List Int) : mex l ≤ l.length := by
  unfold mex
  cases h : (List.range (l.length + 1)).find? (fun (u : Nat) => !l.contains (u : Int)) with
  | none => simp
  | some c => have := List.mem_of_find?_eq_some h; simp at this; simp; omega

theorem near_len {n : Net} (hg : Good n) (l : List Int) {v : Nat} (hv : v < n.ends.length) : (nearOf n.ends l v).length ≤ 6 := by
  rw [near_adj, List.length_map, adj_len hg hv]; exact hg.deg hv


/-! ### Dropping -/

def dropAt (E : Ends) (l : List Int) (c : Int) (v : Nat) : Int := if l.getD v 0 = c then mex (nearOf E l v) else l.getD v 0
def dropOf (E : Ends) (l : List Int) (c : Int) : List Int := (List.range l.length).map (dropAt E l c)

theorem dropOf_len (E : Ends) (l : List Int) (c : Int) : (dropOf E l c).length = l.length := by simp [dropOf]

theorem dropAt_I64 {n : Net} (hg : Good n) {l : List Int} (hl : ∀ x ∈ l, I64 x) (hlen : l.length = n.ends.length) (c : Int) : ∀ v < l.length, I64 (dropAt n.ends l c v) := by
  intro v hv
  unfold dropAt
  split
  · have := mex_le (nearOf n.ends l v)
    have := near_len hg l (v := v) (by omega)
    unfold I64; omega
  · simp [hv]; exact hl _ (List.getElem_mem hv)

theorem dropOf_I64 {n : Net} (hg : Good n) {l : List Int} (hl : ∀ x ∈ l, I64 x) (hlen : l.length = n.ends.length) (c : Int) : ∀ x ∈ dropOf n.ends l c, I64 x := by
  intro x hx
  obtain ⟨v, hv, rfl⟩ := List.mem_map.1 hx
  exact dropAt_I64 hg hl hlen c v (by simpa using hv)

structure DropAsked (n : Net) (l : List Int) (c : Int) : Prop where
  good : Good n
  proper : Proper n l
  whole : inR c 0 1000000000000 = true

end Go.Proofs.Ytnhidomgpbohiaa
end

section
/- Degrees, greatest numbers, palettes; GreedyReduce, both sides. -/
namespace Go.Proofs.Ytnhidomgpbohiaa
open Go.GX Go.RowKit
set_option maxRecDepth 100000

/-! ### The greatest number -/

def most2 (a b : Int) : Int := if a > b then a else b
def mostOf (l : List Int) : Int := l.foldl most2 0

theorem mostOf_spec (l : List Int) : 0 ≤ mostOf l ∧ (∀ x ∈ l, x ≤ mostOf l) ∧ (mostOf l = 0 ∨ mostOf l ∈ l) := by
  unfold mostOf
  have : ∀ (l : List Int) (m : Int), 0 ≤ m → 0 ≤ l.foldl most2 m ∧ m ≤ l.foldl most2 m ∧ (∀ x ∈ l, x ≤ l.foldl most2 m) ∧ (l.foldl most2 m = m ∨ l.foldl most2 m ∈ l) := by
    intro l
    induction l with
    | nil => intro m hm; simp; exact hm
    | cons y r ih =>
      intro m hm
      have hy : m ≤ most2 m y ∧ y ≤ most2 m y ∧ (most2 m y = m ∨ most2 m y = y) := by
        unfold most2; split <;> omega
      obtain ⟨h1, h2, h3, h4⟩ := ih (most2 m y) (by omega)
      rw [List.foldl_cons]
      refine ⟨h1, by omega, fun x hx => ?_, ?_⟩
      · rcases List.mem_cons.1 hx with rfl | hx
        · omega
        · exact h3 x hx
      · rcases h4 with h4 | h4
        · rcases hy.2.2 with h5 | h5
          · left; rw [h4, h5]
          · right; rw [h4, h5]; simp
        · right; exact List.mem_cons_of_mem _ h4
  obtain ⟨h1, _, h3, h4⟩ := this l 0 (by omega)
  exact ⟨h1, h3, h4⟩

theorem l1Most_ok (a b : Int) (w : World) : Calls Try.prog F.s_l1Most #[.int .i64 a, .int .i64 b] w (Ret [.at (.int .i64)] fun (r : Int) w' => r = most2 a b ∧ w = w') := by
  refine C_s_l1Most ?_
  unfold V_s_l1Most most2
  exact cond_dec (fun h => ⟨by rw [if_pos h], rfl⟩) (fun h => ⟨by rw [if_neg h], rfl⟩)

/-! ### Degrees -/

def degsOf (E : Ends) : List Int := E.map fun r => (r.length : Int)

/-! ### What is asked -/

structure PalAsked (n : Net) (l : List Int) (k a : Int) : Prop where
  good : Good n
  pal : 1 ≤ k ∧ k ≤ 1000000000000
  bound : 0 ≤ a ∧ a ≤ 6
  proper : Proper n l
  all : AllIn l 0 (k - 1)
  degs : mostOf (degsOf n.ends) ≤ a

theorem PalAsked.deg {n : Net} {l : List Int} {k a : Int} (h : PalAsked n l k a) {v : Nat} (hv : v < n.ends.length) : (n.ends[v].length : Int) ≤ a := by
  have := (mostOf_spec (degsOf n.ends)).2.1 (n.ends[v].length : Int) (List.mem_map.2 ⟨_, List.getElem_mem hv, rfl⟩)
  have := h.degs
  omega

/-! ### Dropping the greatest colours -/

/-- What a list of colours must be for the rounds. -/
structure ColsOk (n : Net) (a : Int) (l : List Int) : Prop where
  good : Good n
  len : l.length = n.ends.length
  nn : ∀ x ∈ l, 0 ≤ x
  i64 : ∀ x ∈ l, I64 x
  deg : ∀ v, (hv : v < n.ends.length) → (n.ends[v].length : Int) ≤ a

theorem dropOf_mem {n : Net} {a : Int} {l : List Int} (h : ColsOk n a l) {c : Int} : ∀ x ∈ dropOf n.ends l c, (0 ≤ x ∧ x ≤ a) ∨ (x ∈ l ∧ x ≠ c) := fun x hx => by
  obtain ⟨v, hv, rfl⟩ := List.mem_map.1 hx
  have hv' : v < l.length := by simpa using hv
  have hve : v < n.ends.length := by rw [← h.len]; exact hv'
  unfold dropAt
  split
  · left
    have h1 := mex_le (nearOf n.ends l v)
    have h2 : (nearOf n.ends l v).length = n.ends[v].length := by rw [near_adj, List.length_map, adj_len h.good hve]
    have := h.deg v hve
    omega
  · rename_i hne
    right
    simp [hv'] at hne ⊢
    exact hne

theorem ColsOk.drop {n : Net} {a : Int} {l : List Int} (h : ColsOk n a l) (c : Int) : ColsOk n a (dropOf n.ends l c) :=
  ⟨h.good, by rw [dropOf_len]; exact h.len, fun x hx => by
    rcases dropOf_mem h x hx with h1 | h1
    · exact h1.1
    · exact h.nn x h1.1, dropOf_I64 h.good h.i64 h.len c, h.deg⟩

end Go.Proofs.Ytnhidomgpbohiaa
end

section
/- Walk problems, the reference: depths within a component. -/
namespace Go.Proofs.Ytnhidomgpbohiaa
open Go.GX Go.RowKit
set_option maxRecDepth 100000

theorem waGcd_ok {a b : Nat} (w : World) :
    Calls Try.prog F.s_waGcd #[.int .i64 a, .int .i64 b] w (Ret [.at (.int .i64)] fun (x : Int) w' => Ext w w' ∧ x = (Nat.gcd a b : Nat)) := by
  refine C_s_waGcd ?_
  unfold V_s_waGcd
  refine ⟨fun (d n : Int) w' => Ext w w' ∧ ∃ u v : Nat, d = u ∧ n = v ∧ Nat.gcd u v = Nat.gcd a b, fun _ n _ => n.toNat, ⟨Ext.refl _, a, b, rfl, rfl, rfl⟩, ?_⟩
  rintro _ _ w2 ⟨hE2, u, v, rfl, rfl, hG⟩
  intros
  refine cond_dec (fun hpos => ⟨by omega, fun w3 hE3 => ?_⟩) (fun hz => ?_)
  · have hv : 0 < v := by omega
    have e : Int.tmod (u : Int) (v : Int) = ((u % v : Nat) : Int) := by rw [Int.tmod_eq_emod_of_nonneg (by omega)]; rfl
    rw [e]
    have hm := Nat.mod_lt u hv
    refine ⟨⟨hE2.trans hE3, v, u % v, rfl, rfl, ?_⟩, by simp only [Int.toNat_natCast]; exact hm⟩
    rw [← hG, Nat.gcd_comm u v, Nat.gcd_rec v u, Nat.gcd_comm]
  · have hv : v = 0 := by omega
    subst hv
    rw [Nat.gcd_zero_right] at hG
    exact ⟨hE2, by rw [hG]⟩

theorem l1Abs_ok {x : Int} (hx : -1000 ≤ x ∧ x ≤ 1000) (w : World) :
    Calls Try.prog F.s_l1Abs #[.int .i64 x] w (Ret [.at (.int .i64)] fun (r : Int) w' => w = w' ∧ r = (x.natAbs : Int)) := by
  refine C_s_l1Abs ?_
  unfold V_s_l1Abs
  rw [wrap_of (by omega) (by omega)]
  refine call (l1Most_ok _ _ _) ?_
  rintro _ _ ⟨rfl, rfl⟩
  refine ⟨rfl, ?_⟩
  unfold most2
  split <;> omega

/-! ### Depths -/

structure DepOk (E : Nat → Nat → Prop) (n a : Nat) (D : List Int) : Prop where
  len : D.length = n
  val : ∀ b (h : b < D.length), D[b] = -1 ∨ ∃ k : Nat, k ≤ n ∧ D[b] = k ∧ Wk E k a b
  all : ∀ b (h : b < D.length), Comp E a b → 0 ≤ D[b]
  zero : ∀ h : a < D.length, D[a] = 0

theorem DepOk.I64 {E : Nat → Nat → Prop} {n a : Nat} {D : List Int} (h : DepOk E n a D) : ∀ x ∈ D, -1 ≤ x ∧ x ≤ n := fun x hx => by
  obtain ⟨b, hb, rfl⟩ := List.mem_iff_getElem.1 hx
  rcases h.val b hb with he | ⟨j, hj, he, _⟩
  · rw [he]; omega
  · rw [he]; omega
theorem DepOk.pot {E : Nat → Nat → Prop} {n a : Nat} {D : List Int} (h : DepOk E n a D) (ha : a < n) (hE : ∀ x y, E x y → y < n) : D.getD a 0 = 0 ∧ ∀ b, Comp E a b → ∃ k : Nat, D.getD b 0 = k ∧ Wk E k a b := by
  have hal : a < D.length := by rw [h.len]; exact ha
  refine ⟨by rw [List.getD_eq_getElem?_getD, List.getElem?_eq_getElem hal, Option.getD_some]; exact h.zero hal, fun b hb => ?_⟩
  have hbn : b < n := by
    obtain ⟨k, hw⟩ := hb.1
    rcases Nat.eq_zero_or_pos k with rfl | hk
    · cases hw; exact ha
    · exact hw.lt hE hk
  have hbl : b < D.length := by rw [h.len]; exact hbn
  rw [List.getD_eq_getElem?_getD, List.getElem?_eq_getElem hbl, Option.getD_some]
  rcases h.val b hbl with he | ⟨k, _, he, hw⟩
  · have := h.all b hbl hb; omega
  · exact ⟨k, he, hw⟩

/-- How many labels have a depth. -/
def cntN (D : List Int) : Nat := (D.filter fun x => decide (0 ≤ x)).length
theorem cntN_le (D : List Int) : cntN D ≤ D.length := List.length_filter_le _ _
theorem cntN_set : ∀ {D : List Int} {v : Nat} {k : Int} (hv : v < D.length), D[v] < 0 → 0 ≤ k → cntN (D.set v k) = cntN D + 1
  | x :: D, 0, k, _, h1, h2 => by
    have h1' : ¬ 0 ≤ x := by have : x < 0 := h1; omega
    simp [cntN, h1', h2]
  | x :: D, v + 1, k, hv, h1, h2 => by
    have ih := cntN_set (D := D) (v := v) (k := k) (by simpa using hv) (by simpa using h1) h2
    unfold cntN at ih ⊢
    rw [List.set_cons_succ, List.filter_cons, List.filter_cons]
    split
    · rw [List.length_cons, List.length_cons, ih]
    · exact ih

structure DepV (E : Nat → Nat → Prop) (n a : Nat) (D : List Int) : Prop where
  len : D.length = n
  val : ∀ b (h : b < D.length), D[b] = -1 ∨ ∃ k : Nat, k < cntN D ∧ D[b] = k ∧ Wk E k a b
  zero : ∀ h : a < D.length, D[a] = 0
theorem DepV.I64 {E : Nat → Nat → Prop} {n a : Nat} {D : List Int} (h : DepV E n a D) (hn : n ≤ 1000) : ∀ x ∈ D, I64 x := fun x hx => by
  obtain ⟨b, hb, rfl⟩ := List.mem_iff_getElem.1 hx
  have hc := cntN_le D
  have hl := h.len
  rcases h.val b hb with he | ⟨j, hj, he, _⟩
  · rw [he]; unfold GX.I64; omega
  · rw [he]; unfold GX.I64; omega
/-- The arcs of a list lead from depths to depths. -/
def DepCl (A : List (List Int)) (C D : List Int) : Prop := ∀ u v : Nat, arcE A u v → (v : Int) ∈ C → ∀ (hu : u < D.length) (hv : v < D.length), 0 ≤ D[u] → 0 ≤ D[v]

theorem DepV.step {E : Nat → Nat → Prop} {n a u v : Nat} {D : List Int} (h : DepV E n a D) (hu : u < D.length) (hv : v < D.length) (h0 : 0 ≤ D[u]) (hneg : D[v] < 0) (he : E u v) : DepV E n a (D.set v (D[u] + 1)) ∧ cntN (D.set v (D[u] + 1)) = cntN D + 1 := by
  have hc := cntN_set hv hneg (k := D[u] + 1) (by omega)
  refine ⟨⟨by rw [List.length_set]; exact h.len, fun b hb => ?_, fun hh => ?_⟩, hc⟩
  · rw [List.getElem_set, hc]
    by_cases hbv : v = b
    · subst hbv
      rw [if_pos rfl]
      rcases h.val u hu with h1 | ⟨k, hk, h1, hw⟩
      · omega
      · exact .inr ⟨k + 1, by omega, by rw [h1]; push_cast; rfl, u, hw, he⟩
    · rw [if_neg hbv]
      rcases h.val b (by rw [List.length_set] at hb; exact hb) with h1 | ⟨k, hk, h1, hw⟩
      · exact .inl h1
      · exact .inr ⟨k, by omega, h1, hw⟩
  · rw [List.getElem_set]
    by_cases hav : v = a
    · subst hav
      have := h.zero hv
      omega
    · rw [if_neg hav]; exact h.zero (by rw [List.length_set] at hh; exact hh)

theorem leastD_of {p : Nat → Prop} : ∀ n, p n → ∃ m, p m ∧ ∀ k, p k → m ≤ k := by
  intro n
  induction n using Nat.strongRecOn with
  | ind n ih =>
    intro hn
    by_cases h : ∃ k, k < n ∧ p k
    · obtain ⟨k, hk, hp⟩ := h
      exact ih k hk hp
    · refine ⟨n, hn, fun k hk => ?_⟩
      by_cases hlt : k < n
      · exact absurd ⟨k, hlt, hk⟩ h
      · omega
/-- A measure of what a loop keeps besides its variables. -/
theorem ghostD {σ α : Type} (J : σ → α → World → Prop) (t : σ → Nat) : ∃ m : α → World → Nat, (∀ x w, (∃ s, J s x w) → ∃ s, J s x w ∧ t s = m x w) ∧ ∀ s x w, J s x w → m x w ≤ t s := by
  have key : ∀ x w, ∃ m : Nat, ((∃ s, J s x w) → ∃ s, J s x w ∧ t s = m) ∧ ∀ s, J s x w → m ≤ t s := by
    intro x w
    by_cases h : ∃ s, J s x w
    · obtain ⟨s, hs⟩ := h
      obtain ⟨m, ⟨s', h1, h2⟩, h3⟩ := leastD_of (p := fun n => ∃ s, J s x w ∧ t s = n) (t s) ⟨s, hs, rfl⟩
      exact ⟨m, fun _ => ⟨s', h1, h2⟩, fun s hs => h3 _ ⟨s, hs, rfl⟩⟩
    · exact ⟨0, fun h' => absurd h' h, fun s hs => absurd ⟨s, hs⟩ h⟩
  refine ⟨fun x w => Classical.choose (key x w), fun x w h => (Classical.choose_spec (key x w)).1 h, fun s x w h => (Classical.choose_spec (key x w)).2 s h⟩

theorem DepCl.all {p : WPr} {n r : Nat} {C D : List Int} (hg : WGood p) (hn : p.labels.toNat = n) (hm : ∀ b : Nat, (b : Int) ∈ C ↔ b < n ∧ Comp (arcE p.arcs) r b) (hl : D.length = n) (h0 : ∀ h : r < D.length, D[r] = 0) (hcl : DepCl p.arcs C D) : ∀ b (h : b < D.length), Comp (arcE p.arcs) r b → 0 ≤ D[b] := by
  have go : ∀ k b, Wk (arcE p.arcs) k r b → Comp (arcE p.arcs) r b → ∀ h : b < D.length, 0 ≤ D[b] := by
    intro k
    induction k with
    | zero => intro b hw _ h; cases hw; rw [h0 h]; omega
    | succ k ih =>
      rintro b ⟨c, hw, he⟩ hc h
      have hcc : Comp (arcE p.arcs) r c := by
        obtain ⟨_, j, q⟩ := hc
        exact ⟨⟨k, hw⟩, _, (Wk.one he).cat q⟩
      have hr2 := hg.rel he
      have hcl2 : c < D.length := by omega
      exact hcl c b he ((hm b).2 ⟨by omega, hc⟩) hcl2 h (ih c hw hcc hcl2)
  intro b h hc
  obtain ⟨⟨k, hw⟩, _⟩ := id hc
  exact go k b hw hc h

theorem waDepths_ok {w : World} {s t : Sl} {p : WPr} {r : Nat} {C : List Int} (h : RWk w s p) (hg : WGood p) (hC : R w t C) (h0 : 0 < C.length) (hr : C[0] = (r : Int)) (hrn : r < p.labels.toNat) (hm : ∀ b : Nat, (b : Int) ∈ C ↔ b < p.labels.toNat ∧ Comp (arcE p.arcs) r b) :
    Calls Try.prog F.s_waDepths #[.agg #[.int .i64 p.labels, s.v], t.v] w (Ret [.at .sl] fun (u : Sl) w' => Ext w w' ∧ ∃ D, OwnL w' w.heap.size T.t_int u D ∧ DepOk (arcE p.arcs) p.labels.toNat r D) := by
  refine C_s_waDepths ?_
  unfold V_s_waDepths
  refine NEW_intro fun pp w1 hp1 hs1 hE1 hb1 => LD_bi0 hb1 ?_
  have hl := hg.lab
  have hz1 := hE1.size_le
  obtain ⟨n, hn⟩ : ∃ n : Nat, p.labels = n := ⟨p.labels.toNat, by omega⟩
  have hnt : p.labels.toNat = n := by omega
  have hn12 : n ≤ 12 := by omega
  rw [hnt] at hrn hm ⊢
  have hrun : ∀ {K : Sl → World → Prop}, RUN Try.prog (.at .sl) (Instr.makeSlice T.t_sl_int (.int .i64 (n : Int)) (.int .i64 (n : Int))) w1 K → RUN Try.prog (.at .sl) (Instr.makeSlice T.t_sl_int (.int .i64 p.labels) (.int .i64 p.labels)) w1 K := fun hk => by rw [hn]; exact hk
  refine hrun ?_
  refine RUN_make (α := Int) slt_int (d := 0) rfl (by omega) (by unfold maxLen; omega) fun u w2 hE2 hO2 => ?_
  have hz2 := hE2.size_le
  have hE12 := hE1.trans hE2
  have hul : u.len = n := by have := hO2.1; rw [List.length_replicate] at this; exact this
  have hub : ∀ k, oB u k → w1.heap.size ≤ k ∧ k < w2.heap.size := fun k hk => hO2.blk k hk
  have hext : ∀ {w' : World}, Chg w2 w' (oB u) → Ext w w' := fun hC => hC.ext0 hE12 fun k hk => by have := (hub k hk).1; omega
  have hbox : ∀ {w' : World}, Chg w2 w' (oB u) → Box w' pp T.t_i_WalkProblem [.int .i64 p.labels, s.v] := fun hC => (hb1.ext hE2).chg hC fun hh => by have := (hub _ hh).1; have := hb1.lt; omega
  rw [hul]
  refine ⟨IN n fun i w' => Chg w2 w' (oB u) ∧ OwnL w' w1.heap.size T.t_int u (List.replicate i (-1) ++ List.replicate (n - i) 0), MN n, IN_zero ⟨Chg.refl _ _, by simpa using hO2⟩, ?_⟩
  rintro _ w3 ⟨i, rfl, hi, hC3, hO3⟩
  intros
  refine cond_dec (fun hlt => ?_) (fun hge => ?_)
  · have hi' : i < n := by omega
    have hil : i < (List.replicate i (-1 : Int) ++ List.replicate (n - i) 0).length := by simp; omega
    refine IX_own hO3 hil rfl fun q hq => ?_
    refine ST_own hO3 hil hq (-1) rfl fun w4 hO4 hs4 => ?_
    refine IN_next (by omega) hi' ⟨hC3.trans (.of_step hs4 fun k hk => hk), ?_⟩
    have e : (List.replicate i (-1 : Int) ++ List.replicate (n - i) 0).set i (-1) = List.replicate (i + 1) (-1) ++ List.replicate (n - (i + 1)) 0 := by
      rw [List.set_append_right _ _ (by simp)]
      obtain ⟨d, hd⟩ : ∃ d, n - i = d + 1 := ⟨n - i - 1, by omega⟩
      have hd2 : n - (i + 1) = d := by omega
      rw [hd, hd2, List.length_replicate, Nat.sub_self, List.replicate_succ, List.set_cons_zero, List.replicate_succ' (n := i), List.append_assoc]
      rfl
    rw [e] at hO4
    exact hO4
  · have : i = n := by omega
    subst this
    have hO3' : OwnL w3 w1.heap.size T.t_int u (List.replicate i (-1)) := by simpa using hO3
    refine (hC.ext (hext hC3)).ixI (i := 0) h0 fun q _ hc => LD_int hc ?_
    rw [hr]
    have hrl : r < (List.replicate i (-1 : Int)).length := by simpa using hrn
    refine IX_own hO3' hrl rfl fun q2 hq2 => ?_
    refine ST_own hO3' hrl hq2 (0 : Int) rfl fun w5 hO5 hs5 => ?_
    have hC5 : Chg w2 w5 (oB u) := hC3.trans (.of_step hs5 fun k hk => hk)
    have hV0 : DepV (arcE p.arcs) i r ((List.replicate i (-1 : Int)).set r 0) := by
      refine ⟨by simp, fun b hb => ?_, fun hh => by simp⟩
      rw [List.getElem_set]
      by_cases he : r = b
      · subst he
        rw [if_pos rfl, cntN_set hrl (by simp) (by omega)]
        exact .inr ⟨0, by omega, rfl, rfl⟩
      · rw [if_neg he]; exact .inl (by simp)
    obtain ⟨m9, hm1, hm2⟩ := ghostD (fun (db : List Int × Bool) (x : Bool) (w' : World) => x = db.2 ∧ Chg w2 w' (oB u) ∧ OwnL w' w1.heap.size T.t_int u db.1 ∧ DepV (arcE p.arcs) i r db.1 ∧ (db.2 = false → DepCl p.arcs C db.1)) (fun db => if db.2 then 1 + (i - cntN db.1) else 0)
    refine ⟨fun x w' => ∃ db : List Int × Bool, x = db.2 ∧ Chg w2 w' (oB u) ∧ OwnL w' w1.heap.size T.t_int u db.1 ∧ DepV (arcE p.arcs) i r db.1 ∧ (db.2 = false → DepCl p.arcs C db.1), m9, ⟨(_, true), rfl, hC5, hO5, hV0, fun h => by cases h⟩, ?_⟩
    rintro ag w6 hJ
    intros
    obtain ⟨⟨D, b⟩, ⟨hb, hC6, hO6, hV6, hcl6⟩, ht⟩ := hm1 _ _ hJ
    simp only at hb hO6 hV6 hcl6 ht
    subst hb
    cases ag with
    | false =>
      refine cond_f rfl ?_
      have hcn := cntN_le D
      refine ⟨hext hC6, D, hO6.low hz1, hV6.len, fun b hb => ?_, DepCl.all hg hnt hm hV6.len hV6.zero (hcl6 rfl), hV6.zero⟩
      rcases hV6.val b hb with h1 | ⟨k, hk, h1, hw⟩
      · exact .inl h1
      · exact .inr ⟨k, by have := hV6.len; omega, h1, hw⟩
    | true =>
      refine cond_t rfl ?_
      refine LD_bs1 (hbox hC6) ?_
      rw [h.arcs.len]
      refine ⟨IN2 p.arcs.length fun j (x : Bool) w' => Chg w2 w' (oB u) ∧ ∃ D2, OwnL w' w1.heap.size T.t_int u D2 ∧ DepV (arcE p.arcs) i r D2 ∧ cntN D ≤ cntN D2 ∧ (x = true → cntN D < cntN D2) ∧ (x = false → DepCl (p.arcs.take j) C D2), MN2 p.arcs.length, IN2_zero ⟨hC6, D, hO6, hV6, Nat.le_refl _, (fun h => by cases h), fun _ u v he => by simp [arcE] at he⟩, ?_⟩
      rintro x7 _ w7 ⟨j, rfl, hj, hC7, D2, hO7, hV7, hc7, ht7, hf7⟩
      intros
      have hD64 := hV7.I64 (by omega)
      refine cond_dec (fun hlt2 => ?_) (fun hge2 => ?_)
      · have hj' : j < p.arcs.length := by omega
        have hR7 := (hO7.rep hD64).any
        have hdl := hV7.len
        refine (h.arcs.ext (hext hC7)).ixL hj' fun q3 row hrow hc3 => LD_sl hc3 ?_
        obtain ⟨x, y, he, hx, hy⟩ := hg.arc (List.getElem_mem hj')
        rw [hnt] at hx hy
        rw [he] at hrow
        have hstep : ∀ c d, arcE (p.arcs.take (j + 1)) c d ↔ arcE (p.arcs.take j) c d ∨ (c = x ∧ d = y) := fun c d => by
          unfold arcE
          rw [List.take_succ_eq_append_getElem hj', he, List.mem_append, List.mem_singleton]
          simp only [List.cons.injEq, and_true, Int.natCast_inj]
        have hxl : x < D2.length := by omega
        have hyl : y < D2.length := by omega
        have skip : (0 ≤ D2[x] → (y : Int) ∈ C → 0 ≤ D2[y]) → ∀ {w' : World}, w' = w7 → IN2 p.arcs.length (fun j (x : Bool) w' => Chg w2 w' (oB u) ∧ ∃ D2, OwnL w' w1.heap.size T.t_int u D2 ∧ DepV (arcE p.arcs) i r D2 ∧ cntN D ≤ cntN D2 ∧ (x = true → cntN D < cntN D2) ∧ (x = false → DepCl (p.arcs.take j) C D2)) x7 (IntKind.i64.wrap ((j : Int) + 1)) w' ∧ MN2 p.arcs.length x7 (IntKind.i64.wrap ((j : Int) + 1)) w' < MN2 p.arcs.length x7 (j : Int) w7 := fun hs {w'} hw => by
          subst hw
          refine IN2_next h.arcs.le hj' ⟨hC7, D2, hO7, hV7, hc7, ht7, fun hx7 c d hcd hd hcl hdl h0c => ?_⟩
          rcases (hstep c d).1 hcd with h1 | ⟨rfl, rfl⟩
          · exact hf7 hx7 c d h1 hd hcl hdl h0c
          · exact hs h0c hd
        refine hrow.any.ixI (i := 0) (by simp) fun q4 _ hc4 => LD_int hc4 ?_
        refine hR7.ixI (i := x) hxl fun q5 _ hc5 => LD_int hc5 ?_
        unfold V_s_waDepths_k7
        refine cond_dec (fun hge0 => ?_) (fun hneg => skip (fun h1 => absurd h1 hneg) rfl)
        refine hrow.any.ixI (i := 1) (by simp) fun q6 _ hc6 => LD_int hc6 ?_
        refine hR7.ixI (i := y) hyl fun q7 _ hc7' => LD_int hc7' ?_
        refine cond_dec (fun hylt => ?_) (fun hyge => skip (fun _ _ => by omega) rfl)
        refine hrow.any.ixI (i := 1) (by simp) fun q8 _ hc8 => LD_int hc8 ?_
        refine call (l1Has_ok (hC.ext (hext hC7)) _) ?_
        rintro _ _ ⟨rfl, rfl⟩
        refine cond_b (fun hmem => ?_) (fun hnm => skip (fun _ hh => by have := List.contains_iff_mem.2 hh; rw [show C.contains (y : Int) = false from hnm] at this; cases this) rfl)
        intro w9 hE9 _
        have hO9 := hO7.ext hE9
        have hR9 := hR7.ext hE9
        have hrow9 := hrow.any.ext hE9
        refine ⟨fun _ => False, ?_⟩
        refine hrow9.ixI (i := 1) (by simp) fun q9 _ hc9 => ⟨not_false, LD_int hc9 ⟨Chg.refl _ _, ?_⟩⟩
        refine hrow9.ixI (i := 0) (by simp) fun q10 _ hc10 => ⟨Chg.refl _ _, LD_int hc10 ⟨Chg.refl _ _, ?_⟩⟩
        refine hR9.ixI (i := x) hxl fun q11 _ hc11 => ⟨Chg.refl _ _, LD_int hc11 ⟨Chg.refl _ _, Chg.refl _ _, ?_⟩⟩
        have hcn := cntN_le D2
        have hbnd : D2[x] ≤ 1000 := by
          rcases hV7.val x hxl with h1 | ⟨k, hk, h1, _⟩
          · omega
          · omega
        have hge1 : (0 : Int) ≤ D2[x] := hge0
        rw [wrap_of (n := D2[x] + 1) (by omega) (by omega)]
        refine IX_own hO9 hyl rfl fun q12 hq12 => ?_
        refine ST_own hO9 hyl hq12 (D2[x] + 1) rfl fun w10 hO10 hs10 => ?_
        obtain ⟨hV10, hc10'⟩ := hV7.step hxl hyl hge1 hylt (show arcE p.arcs x y from by unfold arcE; rw [← he]; exact List.getElem_mem hj')
        exact IN2_next h.arcs.le hj' ⟨(hC7.trans (.of_ext hE9)).trans (.of_step hs10 fun k hk => hk), _, hO10, hV10, by omega, fun _ => by omega, fun hh => by cases hh⟩
      · have : j = p.arcs.length := by omega
        subst this
        rw [List.take_length] at hf7
        refine ⟨⟨(D2, x7), rfl, hC7, hO7, hV7, hf7⟩, ?_⟩
        have hle := hm2 (D2, x7) x7 w7 ⟨rfl, hC7, hO7, hV7, hf7⟩
        rw [if_pos rfl] at ht
        have hcn := cntN_le D2
        have hdl := hV7.len
        cases x7 with
        | false =>
          have : m9 false w7 ≤ 0 := hle
          omega
        | true =>
          have h1 : m9 true w7 ≤ 1 + (i - cntN D2) := hle
          have h2 := ht7 rfl
          omega

end Go.Proofs.Ytnhidomgpbohiaa
end

section
/- Walk problems, the program: components, flexible labels. -/
namespace Go.Proofs.Ytnhidomgpbohiaa
open Go.GX Go.RowKit
set_option maxRecDepth 100000

theorem setOf_ok {w : World} {s : Sl} {L : List Int} {n : Nat} (h : R w s L) (hn : n ≤ 12) (hL : ∀ x ∈ L, ∃ a : Nat, x = a ∧ a < n) :
    Calls Try.prog F.i_setOf #[s.v] w (Ret [.at (.int .i64)] fun (x : Int) w' => w = w' ∧ x = ((maskP n (fun a : Nat => (a : Int) ∈ L) : Nat) : Int)) := by
  refine C_i_setOf ?_
  unfold V_i_setOf
  rw [h.len]
  refine ⟨IN2 L.length fun i (x : Int) w' => w = w' ∧ x = ((maskP n (fun a : Nat => (a : Int) ∈ L.take i) : Nat) : Int), MN2 L.length, IN2_zero ⟨rfl, by rw [maskP_none (fun a _ => by simp)]; rfl⟩, ?_⟩
  rintro _ _ _ ⟨i, rfl, hi, rfl, rfl⟩
  intros
  refine cond_dec (fun hlt => ?_) (fun hge => ?_)
  · have hi' : i < L.length := by omega
    refine h.ixI hi' fun q _ hc => LD_int hc ?_
    obtain ⟨a, ha, han⟩ := hL _ (List.getElem_mem hi')
    rw [ha]
    refine ⟨by omega, ?_⟩
    rw [shl_maskP hn han, or_maskP hn]
    refine IN2_next h.le hi' ⟨rfl, ?_⟩
    congr 1
    refine maskP_congr fun b _ => ?_
    rw [List.take_succ_eq_append_getElem hi', ha, List.mem_append, List.mem_singleton, Int.natCast_inj]
  · have : i = L.length := by omega
    subst this
    rw [List.take_length]
    exact ⟨rfl, rfl⟩

/-- What is known of components and periods whose roots are some labels. -/
structure CompsIs (E : Nat → Nat → Prop) (n : Nat) (rs : List Nat) (CL : List (List Int)) (PL : List Int) : Prop where
  cl : CL = rs.map (compL E n)
  pl : PL.length = rs.length
  per : ∀ j (h1 : j < PL.length) (h2 : j < rs.length), ∃ P : Nat, PL[j] = P ∧ P ≤ 100 ∧ (P = 1 ↔ Flex E rs[j])
theorem CompsIs.I64 {E : Nat → Nat → Prop} {n : Nat} {rs : List Nat} {CL : List (List Int)} {PL : List Int} (h : CompsIs E n rs CL PL) : ∀ x ∈ PL, I64 x := fun x hx => by
  obtain ⟨j, hj, rfl⟩ := List.mem_iff_getElem.1 hx
  obtain ⟨P, he, hP, _⟩ := h.per j hj (by rw [← h.pl]; exact hj)
  rw [he]; unfold GX.I64; omega
theorem CompsIs.add {E : Nat → Nat → Prop} {n : Nat} {rs : List Nat} {CL : List (List Int)} {PL : List Int} (h : CompsIs E n rs CL PL) {a P : Nat} (hP : P ≤ 100 ∧ (P = 1 ↔ Flex E a)) : CompsIs E n (rs ++ [a]) (CL ++ [compL E n a]) (PL ++ [(P : Int)]) :=
  ⟨by rw [h.cl, List.map_append, List.map_singleton], by simp [h.pl], fun j h1 h2 => by
    have hpl := h.pl
    by_cases hj : j < rs.length
    · rw [List.getElem_append_left (by omega), List.getElem_append_left hj]
      exact h.per j _ hj
    · have : j = rs.length := by simp at h2; omega
      subst this
      refine ⟨P, ?_, hP.1, ?_⟩
      · rw [List.getElem_append_right (by omega)]; simp [hpl]
      · rw [List.getElem_append_right (by omega)]; simpa using hP.2⟩
theorem roots_len {E : Nat → Nat → Prop} {a : Nat} {rs : List Nat} (h : Roots E a rs) : rs.length ≤ a := nodup_length a rs (h.apart.imp fun {x y} hc (he : x = y) => hc (by subst he; exact Comp.refl)) h.lt

structure CompsS (w0 : World) (E : Nat → Nat → Prop) (n a : Nat) (s6 s7 : Sl) (x8 : Int) (w : World) : Prop where
  ext : Ext w0 w
  ex : ∃ rs CL PL, Roots E a rs ∧ CompsIs E n rs CL PL ∧ RowsX (oB s7) w0.heap.size T.t_sl_int w s6 CL ∧ OwnL w w0.heap.size T.t_int s7 PL
  done : x8 = ((maskP n (fun b => ∃ r, r < a ∧ Comp E r b) : Nat) : Int)

set_option maxHeartbeats 1000000 in
theorem walkComponents_ok {w : World} {s : Sl} {p : WPr} (h : RWk w s p) (hg : WGood p) :
    Calls Try.prog F.i_WalkProblem_walkComponents #[.agg #[.int .i64 p.labels, s.v]] w (Ret [.at .sl, .at .sl] fun (r6 : Sl) (r7 : Sl) w' => Ext w w' ∧ ∃ rs CL PL, Roots (arcE p.arcs) p.labels.toNat rs ∧ CompsIs (arcE p.arcs) p.labels.toNat rs CL PL ∧ R w' r6 CL ∧ R w' r7 PL) := by
  refine C_i_WalkProblem_walkComponents ?_
  unfold V_i_WalkProblem_walkComponents
  refine NEW_intro fun pp w1 hp1 hs1 hE1 hb1 => ?_
  intro w2 hE2 _
  have hE12 := hE1.trans hE2
  have hb2 := hb1.ext hE2
  refine LD_is hb2 (LD_is hb2 ?_)
  refine call (closure_ok (h.ext hE12) hg) ?_
  rintro tc w3 ⟨hE3, hO3⟩
  refine ⟨hE3, ?_⟩
  refine call (after_ok (h.ext (hE12.trans hE3)) hg) ?_
  rintro ta w4 ⟨hE4, hO4⟩
  have hE24 := hE3.trans hE4
  refine ⟨hE24, hE24, ?_⟩
  have hl := hg.lab
  have hrelE : ∀ x y, arcE p.arcs x y → x < p.labels.toNat ∧ y < p.labels.toNat := fun x y hxy => hg.rel hxy
  have hper := fun {w : World} {t : Sl} {r : Nat} {C : List Int} (h' : RWk w s p) (hC : R w t C) => periodOf_ok (r := r) h' hg hC
  generalize hEe : arcE p.arcs = E at *
  generalize hnn : p.labels.toNat = n at *
  have hn12 : n ≤ 12 := by omega
  have hRc4 : R w4 tc (closeL E n) := ((hO3.ext hE4).rep (closeL_I64 hn12)).any
  have hRa4 : R w4 ta (afterL p.arcs n) := (hO4.rep (afterL_I64 hn12)).any
  have hE04 := hE12.trans hE24
  have hb4 := hb2.ext hE24
  have hlt4 := hb4.lt
  rw [hRc4.len, closeL_len]
  have memC : ∀ {r b : Nat}, Comp E r b → r < n → b < n := fun {r b} hc hr => by
    obtain ⟨⟨k, hw⟩, _⟩ := hc
    rcases Nat.eq_zero_or_pos k with rfl | hk
    · cases hw; exact hr
    · exact hw.lt (fun x y hxy => (hrelE x y hxy).2) hk
  refine ⟨fun s6 s7 x8 x w' => ∃ a : Nat, x = a ∧ a ≤ n ∧ CompsS w4 E n a s6 s7 x8 w', fun _ _ _ x _ => n - x.toNat, ⟨0, rfl, by omega, Ext.refl _, ⟨[], [], [], Roots.nil E, ⟨rfl, rfl, fun j h1 => by simp at h1⟩, RowsX.nil _ _ _ _, OwnL.nil _ _ _⟩, by rw [maskP_none fun b _ ⟨r, hr, _⟩ => by omega]; rfl⟩, ?_⟩
  rintro s6 s7 x8 _ w5 ⟨a, rfl, ha, hE5, ⟨rs, CL, PL, hrs, hcp, hX6, hO7⟩, rfl⟩
  intros
  have next : ∀ {s6' s7' : Sl} {x8' : Int} {w' : World}, a < n → CompsS w4 E n (a + 1) s6' s7' x8' w' → (∃ a' : Nat, IntKind.i64.wrap ((a : Int) + 1) = a' ∧ a' ≤ n ∧ CompsS w4 E n a' s6' s7' x8' w') ∧ n - (IntKind.i64.wrap ((a : Int) + 1)).toNat < n - ((a : Int)).toNat := fun han hS => by
    rw [wrap_of (by omega) (by omega)]
    exact ⟨⟨a + 1, by omega, by omega, hS⟩, by omega⟩
  refine cond_dec (fun hlt => ?_) (fun hge => ?_)
  · have han : a < n := by omega
    refine ⟨by omega, ?_⟩
    classical
    rw [bit_maskP hn12 han]
    by_cases hdone : ∃ r, r < a ∧ Comp E r a
    · rw [if_pos hdone]
      refine cond_t (by rfl) (next han ⟨hE5, ⟨rs, CL, PL, hrs.skip fun hc => ?_, hcp, hX6, hO7⟩, ?_⟩)
      · obtain ⟨r0, hr0, hcm⟩ := hdone
        obtain ⟨r, hr, hx⟩ := hrs.cover r0 hr0 (cyc_comp hcm.symm hc)
        exact ⟨r, hr, hx.trans hcm⟩
      · congr 1
        refine maskP_congr fun b _ => ⟨fun ⟨r, h1, h2⟩ => ⟨r, by omega, h2⟩, fun ⟨r, h1, h2⟩ => ?_⟩
        by_cases he : r = a
        · subst he
          obtain ⟨r0, hr0, hcm⟩ := hdone
          exact ⟨r0, hr0, hcm.trans h2⟩
        · exact ⟨r, by omega, h2⟩
    · rw [if_neg hdone]
      refine cond_f (by rfl) ?_
      have hRc5 := hRc4.ext hE5
      have hal : a < (closeL E n).length := by rw [closeL_len]; exact han
      refine hRc5.ixI hal fun q _ hcq => LD_int hcq ?_
      rw [closeL_get hal]
      refine call (labels12_ok (maskP_small hn12 _) w5) ?_
      rintro u w6 ⟨hE6, hO6⟩
      generalize hL : labs (maskP n fun b => ∃ k, Wk E k a b) = L at hO6
      have hL64 : ∀ x ∈ L, I64 x := by subst hL; exact labs_I64 _
      have hLlen : L.length ≤ 12 := by subst hL; exact labs_len _
      have hLm : ∀ x, x ∈ L ↔ ∃ b : Nat, x = b ∧ b < n ∧ ∃ k, Wk E k a b := by subst hL; exact fun x => mem_labsP hn12
      have hLs : L.Pairwise (· < ·) := by subst hL; exact labs_sorted _
      have hRu := (hO6.rep hL64).any
      rw [hRu.len]
      have hz6 := hE6.size_le
      refine ⟨IN2 L.length fun j (x : Sl) w' => Ext w6 w' ∧ OwnL w' w6.heap.size T.t_int x ((L.take j).filter fun y => decide (Comp E a y.toNat)), MN2 L.length, IN2_zero ⟨Ext.refl _, OwnL.nil _ _ _⟩, ?_⟩
      rintro x10 _ w7 ⟨j, rfl, hj, hE7, hO10⟩
      intros
      refine cond_dec (fun hlt2 => ?_) (fun hge2 => ?_)
      · have hj' : j < L.length := by omega
        refine (hRu.ext hE7).ixI hj' fun q2 _ hc2 => LD_int hc2 ?_
        obtain ⟨b, hb, hbn, hbk⟩ := (hLm L[j]).1 (List.getElem_mem hj')
        rw [hb]
        have hbl : b < (closeL E n).length := by rw [closeL_len]; exact hbn
        refine (hRc5.ext (hE6.trans hE7)).ixI hbl fun q3 _ hc3 => LD_int hc3 ⟨by omega, ?_⟩
        rw [closeL_get hbl, bit_maskP hn12 han]
        have hcomp : Comp E a b ↔ ∃ k, Wk E k b a := ⟨fun hc => hc.2, fun hk => ⟨hbk, hk⟩⟩
        by_cases hback : ∃ k, Wk E k b a
        · rw [if_pos hback]
          refine cond_t (by rfl) ?_
          refine RUN_lit1 (α := Int) slt_int (b : Int) rfl (by decide) fun y w8 hE8 hO8 => ?_
          have hz7 := hE7.size_le
          have hz8 := hE8.size_le
          have hfl : ((L.take j).filter fun y => decide (Comp E a y.toNat)).length ≤ 12 := Nat.le_trans (List.length_filter_le _ _) (by rw [List.length_take]; omega)
          refine RUN_append (α := Int) slt_int (hO10.ext hE8) (by omega) (hO8.rep (by intro x hx; rw [List.mem_singleton.1 hx]; show I64 _; unfold GX.I64; omega)).any (by simp; omega) (by simp [maxLen]; omega) fun r' w9 hO9 hs9 => ?_
          refine IN2_next (by omega) hj' ⟨hs9.ext0 (hE7.trans hE8) fun k hk => (hO10.blk k hk).1, ?_⟩
          rw [List.take_succ_eq_append_getElem hj', hb, List.filter_append]
          have : ([(b : Int)].filter fun y => decide (Comp E a y.toNat)) = [(b : Int)] := by simp [hcomp.2 hback]
          rw [this]; exact hO9
        · rw [if_neg hback]
          refine cond_f (by rfl) (IN2_next (by omega) hj' ⟨hE7, ?_⟩)
          rw [List.take_succ_eq_append_getElem hj', hb, List.filter_append]
          have : ([(b : Int)].filter fun y => decide (Comp E a y.toNat)) = [] := by
            have hno : ¬ Comp E a b := fun hc => hback (hcomp.1 hc)
            simp [hno]
          rw [this, List.append_nil]; exact hO10
      · have : j = L.length := by omega
        subst this
        rw [List.take_length] at hO10
        have hC : (L.filter fun y => decide (Comp E a y.toNat)) = compL E n a := sorted_ext (hLs.filter _) (compL_sorted _ _ _) fun x => by
          rw [List.mem_filter, hLm, compL_mem]
          constructor
          · rintro ⟨⟨b, rfl, hb, _⟩, hc⟩
            exact ⟨b, rfl, hb, by simpa using hc⟩
          · rintro ⟨b, rfl, hb, hc⟩
            exact ⟨⟨b, rfl, hb, hc.1⟩, by simpa using hc⟩
        rw [hC] at hO10
        have hC64 : ∀ x ∈ compL E n a, I64 x := fun x hx => by
          obtain ⟨b, rfl, hb, _⟩ := compL_mem.1 hx
          unfold GX.I64; omega
        have hR10 : R w7 x10 (compL E n a) := (hO10.rep hC64).any
        have hClen := compL_len E n a
        refine call (setOf_ok hR10 hn12 fun x hx => by obtain ⟨b, h1, h2, _⟩ := compL_mem.1 hx; exact ⟨b, h1, h2⟩) ?_
        rintro _ _ ⟨rfl, rfl⟩
        have hmask : maskP n (fun b : Nat => (b : Int) ∈ compL E n a) = maskP n (fun b => Comp E a b) := maskP_congr fun b hb => by rw [compL_mem']; exact ⟨fun hh => hh.2, fun hh => ⟨hb, hh⟩⟩
        rw [hmask]
        have hE57 := hE6.trans hE7
        have hE47 := hE5.trans hE57
        rw [hR10.len]
        have hdn : ∀ {x : Int}, x = bitOr .i64 ((maskP n (fun b => ∃ r, r < a ∧ Comp E r b) : Nat) : Int) ((maskP n (fun b => Comp E a b) : Nat) : Int) → x = ((maskP n (fun b => ∃ r, r < a + 1 ∧ Comp E r b) : Nat) : Int) := fun hx => by
          rw [hx, or_maskP hn12]
          congr 1
          refine maskP_congr fun b _ => ⟨?_, ?_⟩
          · rintro (⟨r, h1, h2⟩ | h2)
            · exact ⟨r, by omega, h2⟩
            · exact ⟨a, by omega, h2⟩
          · rintro ⟨r, h1, h2⟩
            by_cases he : r = a
            · subst he; exact .inr h2
            · exact .inl ⟨r, by omega, h2⟩
        refine ⟨IN2 (compL E n a).length fun j (x : Bool) w' => Ext w7 w' ∧ (x = true ↔ ∃ b c : Nat, (b : Int) ∈ (compL E n a).take j ∧ Comp E a c ∧ E b c), MN2 (compL E n a).length, IN2_zero ⟨Ext.refl _, by simp⟩, ?_⟩
        rintro x11 _ w11 ⟨j, rfl, hj, hE11, hx11⟩
        intros
        refine cond_dec (fun hlt3 => ?_) (fun hge3 => ?_)
        · have hj' : j < (compL E n a).length := by omega
          refine (hR10.ext hE11).ixI hj' fun q4 _ hc4 => LD_int hc4 ?_
          obtain ⟨b, hb, hbn, hbc⟩ := compL_mem.1 (List.getElem_mem hj')
          rw [hb]
          have htk : (compL E n a).take (j + 1) = (compL E n a).take j ++ [(b : Int)] := by rw [List.take_succ_eq_append_getElem hj', hb]
          refine cond_b (fun ht w12 hE12' => ?_) (fun hf => ?_)
          · refine IN2_next (by omega) hj' ⟨hE11.trans hE12', ?_⟩
            obtain ⟨b', c, h1, h2, h3⟩ := hx11.1 ht
            exact ⟨fun _ => ⟨b', c, by rw [htk]; exact List.mem_append_left _ h1, h2, h3⟩, fun _ => rfl⟩
          · have hbl : b < (afterL p.arcs n).length := by rw [afterL_len]; exact hbn
            refine (hRa4.ext (hE47.trans hE11)).ixI hbl fun q5 _ hc5 => LD_int hc5 ?_
            rw [afterL_get hbl]
            refine QCALL_int ((maskP n (fun b => Comp E a b) : Nat) : Int) (fun w' hE' => ?_) ?_
            · refine call (setOf_ok ((hR10.ext hE11).ext hE') hn12 fun x hx => by obtain ⟨b, h1, h2, _⟩ := compL_mem.1 hx; exact ⟨b, h1, h2⟩) ?_
              rintro _ _ ⟨rfl, rfl⟩
              exact ⟨by rw [hmask], Ext.refl _⟩
            · intro w13 hE13
              rw [hEe, and_maskP hn12]
              refine IN2_next (by omega) hj' ⟨hE11.trans hE13, ?_⟩
              have hnz : (((((maskP n fun c => E b c ∧ Comp E a c) : Nat) : Int) != 0) = true) ↔ ∃ c, E b c ∧ Comp E a c := by
                rw [bne_iff_ne]
                constructor
                · intro hne
                  refine Classical.byContradiction fun hno => hne ?_
                  rw [maskP_none fun c _ hc => hno ⟨c, hc⟩]; rfl
                · rintro ⟨c, h1, h2⟩ hz
                  exact maskP_zero (n := n) (P := fun c => E b c ∧ Comp E a c) (by exact_mod_cast hz) c (hrelE b c h1).2 ⟨h1, h2⟩
              rw [hnz, htk]
              constructor
              · rintro ⟨c, h1, h2⟩
                exact ⟨b, c, by simp, h2, h1⟩
              · rintro ⟨b', c, h1, h2, h3⟩
                rcases List.mem_append.1 h1 with h1 | h1
                · rw [hx11.2 ⟨b', c, h1, h2, h3⟩] at hf; cases hf
                · have : b' = b := by have := List.mem_singleton.1 h1; omega
                  subst this
                  exact ⟨c, h3, h2⟩
        · have : j = (compL E n a).length := by omega
          subst this
          rw [List.take_length] at hx11
          have hcyc : x11 = true ↔ ∃ k, 0 < k ∧ Wk E k a a := by
            rw [hx11, ← cyc_iff]
            exact ⟨fun ⟨b, c, h1, h2, h3⟩ => ⟨b, c, (compL_mem'.1 h1).2, h2, h3⟩, fun ⟨b, c, h1, h2, h3⟩ => ⟨b, c, compL_mem'.2 ⟨memC h1 han, h1⟩, h2, h3⟩⟩
          have hE4_11 := hE47.trans hE11
          have hX11 := hX6.ext (hE57.trans hE11)
          have hO711 := hO7.ext (hE57.trans hE11)
          refine cond_b (fun ht => ?_) (fun hf => next han ⟨hE4_11, ⟨rs, CL, PL, hrs.skip fun hc => (by rw [hcyc.2 hc] at hf; cases hf), hcp, hX11, hO711⟩, hdn rfl⟩)
          have hca := hcyc.1 ht
          intro w14 hE14 _
          have hE4_14 := hE4_11.trans hE14
          have hX14 := hX11.ext hE14
          have hO714 := hO711.ext hE14
          have hE7_14 := hE11.trans hE14
          have hO10_14 := hO10.ext hE7_14
          have hz5 := hE5.size_le
          have hz7 := hE7.size_le
          have hz714 := hE7_14.size_le
          have hp4 : ¬ (oB s6 pp.block ∨ oB s7 pp.block) := fun hh => hh.elim (fun h1 => by have := (hX6.blk h1).1; omega) (fun h1 => by have := (hO7.blk _ h1).1; omega)
          refine ⟨fun b => oB s6 b ∨ oB s7 b, hp4, LD_is (hb4.ext hE4_14) ?_⟩
          refine RUN_lit1 (α := Sl) slt_rows x10 rfl (by decide) fun y w15 hE15 hO15 => ⟨.of_ext hE15, ?_⟩
          have hlen6 : CL.length ≤ 12 := by rw [hcp.cl, List.length_map]; have := roots_len hrs; omega
          have hlen7 : PL.length ≤ 12 := by rw [hcp.pl]; have := roots_len hrs; omega
          have hrow : SlR (fun b => s6.v.ownBlock ≠ some b ∧ ¬ oB s7 b) w15 x10 (compL E n a) := ((hO10_14.rep hC64).ext hE15).weak (fun b hb _ => ⟨fun he => by have h1 := (hX6.blk he).2; have h2 : w6.heap.size ≤ b := hb; omega, fun he => by have h1 := (hO7.blk _ he).2; have h2 : w6.heap.size ≤ b := hb; omega⟩) RepP.pos
          refine RUN_append_X slt_rows hX14 (by omega) hE15 hrow hO15 (by omega) (by unfold maxLen; omega) fun s6' w16 hX16 hs16 hN16 => ?_
          have hz15 := hE15.size_le
          have hz16 := hs16.size
          have hC16 : Chg w14 w16 (fun b => oB s6 b ∨ oB s7 b) := (Chg.of_ext hE15).trans (.of_step hs16 fun k hk => .inl hk)
          refine ⟨hC16, ?_⟩
          have hE4_16 : Ext w4 w16 := hs16.ext0 (hE4_14.trans hE15) fun k hk => (hX6.blk hk).1
          have hne67 : ∀ b, s7.v.ownBlock = some b → ¬ s6.v.ownBlock = some b := by
            obtain ⟨ss, hOs, _⟩ := hX14.ex
            exact own_apart hO714 hOs (by decide)
          have hO716 := (hO714.ext hE15).keep fun b hb => hs16.block b ((hO714.ext hE15).blk b hb).2 fun he => hne67 b hb he.symm
          have hR10_16 : R w16 x10 (compL E n a) := ((hO10_14.rep hC64).ext hE15).stepD hs16 (fun b hb he => by have h1 := (hX6.blk he).2; have h2 : w6.heap.size ≤ b := hb; omega) |>.any
          have hE0_16 := hE04.trans hE4_16
          have h0C : 0 < (compL E n a).length := List.length_pos_of_mem (compL_mem'.2 ⟨han, Comp.refl⟩)
          have hC0 : (compL E n a)[0] = (a : Int) := by
            obtain ⟨b, hb, hbn, hbc⟩ := compL_mem.1 (List.getElem_mem h0C)
            obtain ⟨i, hi, he⟩ := List.mem_iff_getElem.1 (compL_mem'.2 (show a < n ∧ Comp E a a from ⟨han, Comp.refl⟩))
            have hle : b ≤ a := by
              rcases Nat.eq_zero_or_pos i with rfl | hi0
              · rw [he] at hb; omega
              · have := List.pairwise_iff_getElem.1 (compL_sorted E n a) 0 i h0C hi hi0
                rw [he, hb] at this; omega
            by_cases hba : b = a
            · rw [hb, hba]
            · exact absurd ⟨b, by omega, hbc.symm⟩ hdone
          refine call (hper (h.ext hE0_16) hR10_16 h0C hC0 han fun b => compL_mem') ?_
          rintro _ w17 ⟨hE17, P, rfl, hP100, hPd⟩
          refine ⟨hC16.trans (.of_ext hE17), ?_⟩
          refine RUN_lit1 (α := Int) slt_int (P : Int) rfl (by decide) fun y2 w18 hE18 hO18 => ⟨hC16.trans (.of_ext (hE17.trans hE18)), ?_⟩
          have hE1618 := hE17.trans hE18
          have hz1618 := hE1618.size_le
          have hO718 := hO716.ext hE1618
          refine RUN_appendF (α := Int) slt_int hO718 (by omega) (hO18.rep (by intro x hx; rw [List.mem_singleton.1 hx]; show I64 _; unfold GX.I64; omega)).any (by simp; omega) (by simp [maxLen]; omega) fun s7' w19 hO19 hs19 hN19 => ?_
          have hC19 : Chg w14 w19 (fun b => oB s6 b ∨ oB s7 b) := (hC16.trans (.of_ext hE1618)).trans (.of_step hs19 fun k hk => .inr hk)
          refine ⟨hC19, hC19, ?_⟩
          have hX18 := hX16.ext hE1618
          have hX19 : RowsX (oB s7') w4.heap.size T.t_sl_int w19 s6' (CL ++ [compL E n a]) := hX18.chg (.of_step hs19 fun k hk => hk) (fun b hb hb7 => by
            obtain ⟨ss, hOs, _⟩ := hX18.ex
            exact own_apart hO718 hOs (by decide) b hb7 hb) fun b hb hlt => by
            rcases hN19 with hN | hN
            · exact (show s7.v.ownBlock = some b from hN ▸ hb)
            · have := hN b hb; omega
          exact next han ⟨hs19.ext0 (hE4_16.trans hE1618) fun k hk => (hO7.blk k hk).1, ⟨rs ++ [a], CL ++ [compL E n a], PL ++ [(P : Int)], hrs.add hca fun r hr hc => hdone ⟨r, hrs.lt r hr, hc⟩, hcp.add ⟨hP100, (flex_of hPd hca).1⟩, hX19, hO19⟩, hdn rfl⟩
  · have : a = n := by omega
    subst this
    exact ⟨hE04.trans hE5, rs, CL, PL, hrs, hcp, hX6.rep, (hO7.rep hcp.I64).any⟩

theorem flexL_I64 {E : Nat → Nat → Prop} {n : Nat} (hn : n ≤ 1000) : ∀ x ∈ flexL E n, I64 x := fun x hx => by
  obtain ⟨b, rfl, hb, _⟩ := flexL_mem.1 hx
  unfold GX.I64; omega

theorem flexibleLabels_ok {w : World} {s : Sl} {p : WPr} (h : RWk w s p) (hg : WGood p) :
    Calls Try.prog F.i_WalkProblem_flexibleLabels #[.agg #[.int .i64 p.labels, s.v]] w (Ret [.at .sl] fun (r : Sl) w' => Ext w w' ∧ OwnL w' w.heap.size T.t_int r (flexL (arcE p.arcs) p.labels.toNat)) := by
  refine C_i_WalkProblem_flexibleLabels ?_
  unfold V_i_WalkProblem_flexibleLabels
  refine NEW_intro fun pp w1 hp1 hs1 hE1 hb1 => LD_is hb1 ?_
  refine call (walkComponents_ok (h.ext hE1) hg) ?_
  rintro r6 r7 w2 ⟨hE2, rs, CL, PL, hrs, hcp, hR6, hR7⟩
  have hl := hg.lab
  generalize arcE p.arcs = E at *
  generalize hnn : p.labels.toNat = n at *
  have hn12 : n ≤ 12 := by omega
  have hrl := roots_len hrs
  have hcl : CL.length = rs.length := by rw [hcp.cl, List.length_map]
  have hz1 := hE1.size_le
  have hz2 := hE2.size_le
  rw [hR6.len, hcl]
  classical
  have hfs : ∀ i, (((rs.take i).filter fun r => decide (Flex E r)).flatMap (compL E n)).length ≤ 12 := fun i => by
    have hpw : ((rs.take i).filter fun r => decide (Flex E r)).Pairwise fun r q => ¬ Comp E r q := (hrs.apart.sublist (List.take_sublist _ _)).filter _
    have hnd := flex_nodup (n := n) hpw
    have h1 : ((((rs.take i).filter fun r => decide (Flex E r)).flatMap (compL E n)).map Int.toNat).length ≤ n := nodup_length n _ (by
      unfold List.Nodup
      rw [List.pairwise_map]
      refine List.Pairwise.imp_of_mem ?_ hnd
      intro x y hx hy hne he
      obtain ⟨r, _, hx⟩ := List.mem_flatMap.1 hx
      obtain ⟨q, _, hy⟩ := List.mem_flatMap.1 hy
      obtain ⟨u, rfl, _, _⟩ := compL_mem.1 hx
      obtain ⟨v, rfl, _, _⟩ := compL_mem.1 hy
      exact hne (by simp only [Int.toNat_natCast] at he; rw [he])) (fun x hx => by
      obtain ⟨y, hy, rfl⟩ := List.mem_map.1 hx
      obtain ⟨r, _, hy⟩ := List.mem_flatMap.1 hy
      obtain ⟨u, rfl, hu, _⟩ := compL_mem.1 hy
      simpa using hu)
    rw [List.length_map] at h1
    omega
  refine ⟨IN2 rs.length fun i (x : Sl) w' => Ext w2 w' ∧ OwnL w' w2.heap.size T.t_int x (((rs.take i).filter fun r => decide (Flex E r)).flatMap (compL E n)), MN2 rs.length, IN2_zero ⟨Ext.refl _, OwnL.nil _ _ _⟩, ?_⟩
  rintro out _ w3 ⟨i, rfl, hi, hE3, hO3⟩
  intros
  refine cond_dec (fun hlt => ?_) (fun hge => ?_)
  · have hi' : i < rs.length := by omega
    refine (hR6.ext hE3).ixL (i := i) (by omega) fun q row hrow hc => LD_sl hc ?_
    have hrowE : CL[i]'(by omega) = compL E n rs[i] := by simp only [hcp.cl, List.getElem_map]
    rw [hrowE] at hrow
    have hpl : i < PL.length := by rw [hcp.pl]; exact hi'
    refine (hR7.ext hE3).ixI hpl fun q2 _ hc2 => LD_int hc2 ?_
    obtain ⟨P, hP, _, hPf⟩ := hcp.per i hpl hi'
    rw [hP]
    have htk : rs.take (i + 1) = rs.take i ++ [rs[i]] := List.take_succ_eq_append_getElem hi'
    refine cond_eq (fun h1 => ?_) (fun hne => ?_)
    · have hF : Flex E rs[i] := hPf.1 (by have : (P : Int) = 1 := h1; omega)
      have hcl2 := compL_len E n rs[i]
      have hfi := hfs i
      refine RUN_append (α := Int) slt_int hO3 hE3.size_le hrow.any (by omega) (by unfold maxLen; omega) fun s' w4 hO4 hs4 => ?_
      refine IN2_next (by omega) hi' ⟨hs4.ext0 hE3 fun k hk => (hO3.blk k hk).1, ?_⟩
      rw [htk, List.filter_append, List.flatMap_append]
      have e : ([rs[i]].filter fun r => decide (Flex E r)) = [rs[i]] := by simp [hF]
      rw [e]; simpa using hO4
    · have hF : ¬ Flex E rs[i] := fun hf => hne (by rw [hPf.2 hf]; rfl)
      refine IN2_next (by omega) hi' ⟨hE3, ?_⟩
      rw [htk, List.filter_append]
      have e : ([rs[i]].filter fun r => decide (Flex E r)) = [] := by simp [hF]
      rw [e, List.append_nil]; exact hO3
  · have : i = rs.length := by omega
    subst this
    rw [List.take_length] at hO3
    have hfi := hfs rs.length
    rw [List.take_length] at hfi
    refine call (sort_ok hO3 (by omega)) ?_
    rintro w5 ⟨hO5, hs5⟩
    have e : flexL E n = sortI ((rs.filter fun r => decide (Flex E r)).flatMap (compL E n)) := eq_sortI (flexL_sorted E n) (flex_nodup (hrs.apart.filter _)) fun x => (flex_roots hrs (fun r => by simp [List.mem_filter]) x).symm
    rw [← e] at hO5
    exact ⟨(hE1.trans hE2).trans (hs5.ext0 hE3 fun k hk => (hO3.blk k hk).1), hO5.low (by omega)⟩

end Go.Proofs.Ytnhidomgpbohiaa
end

section
/- Walk problems, the reference: components, flexible labels. -/
namespace Go.Proofs.Ytnhidomgpbohiaa
open Go.GX Go.RowKit
set_option maxRecDepth 100000

structure WRec where
  a : Sl
  p : Int
  b : Sl

instance : Rep WRec where
  sz := 3
  rep _ _ cs r := cs = [r.a.v, .int .i64 r.p, r.b.v]
  len h := by rw [h]; rfl
  agr _ h := h
  weak _ h := h
instance : RepP WRec := ⟨by decide⟩
theorem one3w (x : Sl) (y : Int) (z : Sl) : ∀ v ∈ [x.v, Value.int .i64 y, z.v], v.oneCell' = true := by intro v hv; simp at hv; rcases hv with rfl | rfl | rfl <;> rfl
instance : Flat WRec where
  cells r := [r.a.v, .int .i64 r.p, r.b.v]
  ok _ := True
  size _ := rfl
  one r v hv := one3w r.a r.p r.b v hv
  repOk _ := rfl
  ofRep h := ⟨h, trivial⟩

theorem slt_part : SlT Try.prog T.t_sl_s_waPart T.t_s_waPart 3 56 (.agg #[.slice none 0 0, .int .i64 0, .slice none 0 0]) := ⟨by kernel_rfl, by kernel_rfl, rfl, by decide⟩

theorem LD_sis {w : World} {p : Addr} {t : TypeId} {x : Sl} {y : Int} {z : Sl} {r : List Value} {K : Sl → Int → Sl → Prop} (hb : Box w p t (x.v :: .int .i64 y :: z.v :: r)) (hk : K x y z) : LD [.sl, .int .i64, .sl] p w K := by
  refine ⟨[x.v, .int .i64 y, z.v], rfl, fun i v hv => ?_, hk⟩
  match i, hv with
  | 0, hv => exact hb.cell (i := 0) hv
  | 1, hv => exact hb.cell (i := 1) hv
  | 2, hv => exact hb.cell (i := 2) hv
  | i + 3, hv => simp at hv

theorem _root_.Go.GX.Chg.then' {a b c : World} {D D' : Nat → Prop} (h : Chg a b D) (k : Chg b c D') (hD : ∀ x, x < a.heap.size → D' x → D x) : Chg a c D :=
  ⟨k.os.trans h.os, k.tape.trans h.tape, k.output.trans h.output, Nat.le_trans h.size k.size, fun x hx hn => (k.block x (Nat.lt_of_lt_of_le hx h.size) fun hd => hn (hD x hx hd)).trans (h.block x hx hn)⟩

/-- What is known of the parts. -/
structure PartIs (E : Nat → Nat → Prop) (r : Nat) (P : Int) : Prop where
  ex : ∃ q : Nat, P = q ∧ q ≤ 100 ∧ (q = 1 ↔ Flex E r)
structure PartsO (base : Nat) (w : World) (s : Sl) (E : Nat → Nat → Prop) (n : Nat) (rs : List Nat) : Prop where
  ex : ∃ recs : List WRec, OwnL w base T.t_s_waPart s recs ∧ recs.length = rs.length ∧ ∀ j (h1 : j < recs.length) (h2 : j < rs.length), SlR (fun b => base ≤ b ∧ s.v.ownBlock ≠ some b) w recs[j].a (compL E n rs[j]) ∧ PartIs E rs[j] recs[j].p

theorem PartsO.nil (base : Nat) (w : World) (E : Nat → Nat → Prop) (n : Nat) : PartsO base w ⟨none, 0, 0⟩ E n [] := ⟨[], OwnL.nil _ _ _, rfl, fun j h1 => by simp at h1⟩
theorem PartsO.keep {base : Nat} {w w' : World} {s : Sl} {E : Nat → Nat → Prop} {n : Nat} {rs : List Nat} (h : PartsO base w s E n rs) {D : Nat → Prop} (hC : Chg w w' D) (hD : ∀ b, base ≤ b → ¬ D b) : PartsO base w' s E n rs := by
  obtain ⟨recs, hO, hl, hr⟩ := h.ex
  exact ⟨recs, hO.keep fun b hb => hC.block b (hO.blk b hb).2 (hD b (hO.blk b hb).1), hl, fun j h1 h2 => ⟨(hr j h1 h2).1.chg hC fun b hb _ => hD b hb.1, (hr j h1 h2).2⟩⟩

theorem RUN_append_part {base b1 : Nat} {w w1 : World} {s y la lb : Sl} {E : Nat → Nat → Prop} {n r : Nat} {rs : List Nat} {P : Int} (h : PartsO base w s E n rs) (hbase : base ≤ w.heap.size) (hE : Ext w w1) (hla : SlR (fun b => base ≤ b ∧ s.v.ownBlock ≠ some b) w1 la (compL E n r)) (hP : PartIs E r P) (hl : rs.length ≤ 100)
    (hy : OwnL w1 b1 T.t_s_waPart y [(⟨la, P, lb⟩ : WRec)]) {K : Sl → World → Prop} (hk : ∀ s' w2, PartsO base w2 s' E n (rs ++ [r]) → Step w1 w2 s.v.ownBlock → K s' w2) : RUN Try.prog (.at .sl) (bsem .append #[T.t_sl_s_waPart, T.t_sl_s_waPart] T.t_sl_s_waPart #[s.v, y.v]) w1 K := by
  obtain ⟨recs, hO, hrl, hr⟩ := h.ex
  have hO1 := hO.ext hE
  have hsz := hE.size_le
  refine RUN_appendF (α := WRec) slt_part hO1 (by omega) (hy.rep fun _ _ => trivial) (by simp; omega) (by simp; unfold maxLen; omega) fun s' w2 hO2 hs2 hN => hk s' w2 ⟨_, hO2, by simp [hrl], fun j h1 h2 => ?_⟩ hs2
  have hw : ∀ b, s.v.ownBlock ≠ some b → b < w1.heap.size → s'.v.ownBlock ≠ some b := fun b hb hlt he => by
    rcases hN with hN | hN
    · exact hb (hN ▸ he)
    · have := hN b he; omega
  have main : ∀ {t : Sl} {l : List Int}, SlR (fun b => base ≤ b ∧ s.v.ownBlock ≠ some b) w1 t l → SlR (fun b => base ≤ b ∧ s'.v.ownBlock ≠ some b) w2 t l := fun {t l} hR =>
    (SlR.stepD (hR.weak (D' := fun b => s.v.ownBlock ≠ some b ∧ base ≤ b ∧ s'.v.ownBlock ≠ some b) (fun b h3 h4 => ⟨h3.2, h3.1, hw b h3.2 h4⟩) RepP.pos) hs2 (fun b hb => hb.1)).weak (fun b hb _ => hb.2) RepP.pos
  by_cases hj : j < recs.length
  · have hjl : j < rs.length := by omega
    rw [List.getElem_append_left hj, List.getElem_append_left hjl]
    exact ⟨main ((hr j hj hjl).1.ext hE), (hr j hj hjl).2⟩
  · have hjl : j = rs.length := by simp at h2; omega
    subst hjl
    have e1 : (recs ++ [(⟨la, P, lb⟩ : WRec)])[rs.length]'h1 = ⟨la, P, lb⟩ := by
      rw [List.getElem_append_right (by omega)]; simp [hrl]
    have e2 : (rs ++ [r])[rs.length]'h2 = r := by
      rw [List.getElem_append_right (by omega)]; simp
    rw [e1, e2]
    exact ⟨main hla, hP⟩

theorem slr_ixW {D : Nat → Prop} {w : World} {s : Sl} {l : List Int} (h : SlR D w s l) {i : Nat} (hi : i < l.length) {K : Addr → Prop} (hk : ∀ p, D p.block → w.cell? p = some (.int .i64 l[i]) → K p) : IX s i 1 K := by
  obtain ⟨a, cs, ha, hD, ⟨rfl, _⟩, hc⟩ := h.2.2 i l[i] (by simp [hi])
  have hl := h.1
  exact ⟨a, ha, by omega, by omega, hk _ (by rw [add_block]; exact hD) (hc 0 _ rfl)⟩

/-- A store of one cell into a box, told as a change. -/
theorem ST_boxC {w w0 : World} {p : Addr} {t : TypeId} {cs : List Value} {i : Nat} {v : Value} {K : World → Prop} (h : Box w p t cs) (hi : i < cs.length) (h1 : v.oneCell' = true) (hE : Ext w0 w) (hp : w0.heap.size ≤ p.block)
    (hk : ∀ w', Chg w w' (fun c => c = p.block) → Ext w0 w' → Box w' p t (cs.set i v) → K w') : GX.ST (p.add i) 0 [v] w K :=
  ST_box1 h hi h1 fun w' hz hb hX hB => by
    have hE' := hX w0 hE hp
    exact hk w' ⟨hE'.os.trans hE.os.symm, hE'.tape.trans hE.tape.symm, hE'.output.trans hE.output.symm, by omega, fun k _ hn => hb k hn⟩ hE' hB
theorem compL_succ (E : Nat → Nat → Prop) (b r : Nat) [Decidable (Comp E r b)] : compL E (b + 1) r = compL E b r ++ (if Comp E r b then [(b : Int)] else []) := by
  classical
  unfold compL
  rw [List.range_succ, List.filter_append, List.map_append]
  by_cases h : Comp E r b
  · simp [h]
  · simp [h]

theorem comp_reach {E : Nat → Nat → Prop} {a b : Nat} (ha : ∃ k, 0 < k ∧ Wk E k a a) : (reachE E a b ∧ reachE E b a) ↔ Comp E a b := by
  constructor
  · rintro ⟨⟨j, _, p⟩, i, _, q⟩
    exact ⟨⟨j, p⟩, i, q⟩
  · rintro ⟨⟨j, p⟩, i, q⟩
    obtain ⟨k, hk, hw⟩ := ha
    exact ⟨⟨k + j, by omega, hw.cat p⟩, i + k, by omega, q.cat hw⟩

/-- One part, from its label on. -/
theorem waParts_k4 {w2 w3 w4 : World} {s15 s18 x4 s : Sl} {p : WPr} {px1 : Addr} {a n : Nat} {rs : List Nat} (h2 : RWk w2 s p) (hg : WGood p) (hnn : p.labels.toNat = n) (hb1 : Box w2 px1 T.t_i_WalkProblem [.int .i64 p.labels, s.v])
    (hE24 : Ext w2 w4) (hR15 : R w2 s15 (matB n (reachE (arcE p.arcs)))) (hz23 : w2.heap.size ≤ w3.heap.size) (hz34 : w3.heap.size ≤ w4.heap.size) (h18b : ∀ k, oB s18 k → w2.heap.size ≤ k ∧ k < w3.heap.size)
    (hO18 : OwnL w4 w2.heap.size T.t_bool s18 (rowB n fun b => ∃ r ∈ rs, Comp (arcE p.arcs) r b)) (hX4 : PartsO w3.heap.size w4 x4 (arcE p.arcs) n rs) (han : a < n) (hrs : Roots (arcE p.arcs) a rs) (hca : ∃ k, 0 < k ∧ Wk (arcE p.arcs) k a a) (hnc : ∀ r ∈ rs, ¬ Comp (arcE p.arcs) r a)
    {I5 : Sl → Int → World → Prop} {m5 : Sl → Int → World → Nat} {wm : World}
    (hk : ∀ x4' w', Ext w2 w' → w3.heap.size ≤ w'.heap.size → OwnL w' w2.heap.size T.t_bool s18 (rowB n fun b => ∃ r ∈ rs ++ [a], Comp (arcE p.arcs) r b) → PartsO w3.heap.size w' x4' (arcE p.arcs) n (rs ++ [a]) → I5 x4' (IntKind.i64.wrap ((a : Int) + 1)) w' ∧ m5 x4' (IntKind.i64.wrap ((a : Int) + 1)) w' < m5 x4 (a : Int) wm) : V_s_waParts_k4 I5 m5 wm px1 s15 s18 x4 (a : Int) w4 := by
  have hl := hg.lab
  have hn12 : n ≤ 12 := by omega
  have hlab : p.labels = (n : Int) := by omega
  have hrel : ∀ x y, arcE p.arcs x y → y < n := fun x y hxy => by have := (hg.rel hxy).2; omega
  have hdep := fun {w : World} {t : Sl} {r : Nat} {C : List Int} (h' : RWk w s p) (hC : R w t C) => waDepths_ok (r := r) h' hg hC
  simp only [hnn] at hdep
  unfold V_s_waParts_k4
  refine NEW_intro fun px7 w6 hp7 hs6 hE6 hb6 => ?_
  refine ST_all hb6 (one3w ⟨none, 0, 0⟩ 0 ⟨none, 0, 0⟩) rfl fun w7 hs7 hz7 hb7 => ?_
  have hE47 : Ext w4 w7 := hs7.ext0 hE6 fun k hk => by cases hk; omega
  have hz47 := hE47.size_le
  have hlt7 := hb7.lt
  have hp7b : w4.heap.size ≤ px7.block := by omega
  generalize hEe : arcE p.arcs = E at *
  have h18ne : ∀ k, oB s18 k → k ≠ px7.block := fun k hk he => by have := (h18b k hk).2; omega
  have rd2 : ∀ {w' : World}, Chg w7 w' (fun c => oB s18 c ∨ w4.heap.size ≤ c) → Ext w2 w' := fun hC => hC.ext0 (hE24.trans hE47) fun k hk => by
    rcases hk with hk | hk
    · exact (h18b k hk).1
    · omega
  -- the labels
  refine ⟨fun (x : Int) w' => ∃ (b : Nat) (lab : Sl), x = b ∧ b ≤ n ∧ Chg w7 w' (fun c => oB s18 c ∨ c = px7.block) ∧ Box w' px7 T.t_s_waPart [lab.v, .int .i64 0, (⟨none, 0, 0⟩ : Sl).v] ∧ OwnL w' w7.heap.size T.t_int lab (compL E b a) ∧ OwnL w' w2.heap.size T.t_bool s18 (rowB n fun c => (∃ r ∈ rs, Comp E r c) ∨ (c < b ∧ Comp E a c)), fun x _ => n - x.toNat, ⟨0, ⟨none, 0, 0⟩, rfl, by omega, Chg.refl _ _, hb7, ?_, ?_⟩, ?_⟩
  · have e : compL E 0 a = [] := by simp [compL]
    rw [e]; exact OwnL.nil _ _ _
  · have e : (rowB n fun c => (∃ r ∈ rs, Comp E r c) ∨ (c < 0 ∧ Comp E a c)) = rowB n fun c => ∃ r ∈ rs, Comp E r c := rowB_congr fun c _ => ⟨fun hh => hh.resolve_right fun hx => by omega, .inl⟩
    rw [e]; exact hO18.ext hE47
  rintro _ w8 ⟨b, lab, rfl, hbn, hC8, hb8, hOl, hO8⟩
  intros
  have hE28 : Ext w2 w8 := rd2 (hC8.mono fun c hc => hc.imp id fun he => by omega)
  have hb18 := hb1.ext hE28
  have hz8 := hC8.size
  refine LD_bi0 hb18 (cond_dec (fun hlt => ?_) (fun hge => ?_))
  · have hb' : b < n := by omega
    have hm15 : (matB n (reachE E)).length = n := matB_len _ _
    have next : ∀ {lab' : Sl} {w' : World}, Chg w7 w' (fun c => oB s18 c ∨ c = px7.block) → Box w' px7 T.t_s_waPart [lab'.v, .int .i64 0, (⟨none, 0, 0⟩ : Sl).v] → OwnL w' w7.heap.size T.t_int lab' (compL E (b + 1) a) → OwnL w' w2.heap.size T.t_bool s18 (rowB n fun c => (∃ r ∈ rs, Comp E r c) ∨ (c < b + 1 ∧ Comp E a c)) → (∃ (b' : Nat) (lab : Sl), IntKind.i64.wrap ((b : Int) + 1) = b' ∧ b' ≤ n ∧ Chg w7 w' (fun c => oB s18 c ∨ c = px7.block) ∧ Box w' px7 T.t_s_waPart [lab.v, .int .i64 0, (⟨none, 0, 0⟩ : Sl).v] ∧ OwnL w' w7.heap.size T.t_int lab (compL E b' a) ∧ OwnL w' w2.heap.size T.t_bool s18 (rowB n fun c => (∃ r ∈ rs, Comp E r c) ∨ (c < b' ∧ Comp E a c))) ∧ n - (IntKind.i64.wrap ((b : Int) + 1)).toNat < n - ((b : Int)).toNat := fun k1 k2 k3 k4 => by
      rw [wrap_of (by omega) (by omega)]
      exact ⟨⟨b + 1, _, by omega, by omega, k1, k2, k3, k4⟩, by omega⟩
    classical
    have no : ¬ Comp E a b → (∃ (b' : Nat) (lab : Sl), IntKind.i64.wrap ((b : Int) + 1) = b' ∧ b' ≤ n ∧ Chg w7 w8 (fun c => oB s18 c ∨ c = px7.block) ∧ Box w8 px7 T.t_s_waPart [lab.v, .int .i64 0, (⟨none, 0, 0⟩ : Sl).v] ∧ OwnL w8 w7.heap.size T.t_int lab (compL E b' a) ∧ OwnL w8 w2.heap.size T.t_bool s18 (rowB n fun c => (∃ r ∈ rs, Comp E r c) ∨ (c < b' ∧ Comp E a c))) ∧ n - (IntKind.i64.wrap ((b : Int) + 1)).toNat < n - ((b : Int)).toNat := fun hno => by
      refine next hC8 hb8 (by rw [compL_succ, if_neg hno, List.append_nil]; exact hOl) ?_
      have e : (rowB n fun c => (∃ r ∈ rs, Comp E r c) ∨ (c < b + 1 ∧ Comp E a c)) = rowB n fun c => (∃ r ∈ rs, Comp E r c) ∨ (c < b ∧ Comp E a c) := rowB_congr fun c _ => ⟨fun hh => hh.imp id fun ⟨h1, h2⟩ => ⟨by
        by_cases he : c = b
        · subst he; exact absurd h2 hno
        · omega, h2⟩, fun hh => hh.imp id fun ⟨h1, h2⟩ => ⟨by omega, h2⟩⟩
      rw [e]; exact hO8
    refine (hR15.ext hE28).ixL (i := a) (by omega) fun q row hrow hc => LD_sl hc ?_
    rw [matB_get (by omega)] at hrow
    have hbl : b < (rowB n (reachE E a)).length := by rw [rowB_len]; exact hb'
    refine hrow.any.ixB hbl fun q2 hc2 => LD_bool hc2 ?_
    have h1 := rowB_get hbl
    generalize (rowB n (reachE E a))[b] = v1 at h1
    refine cond_b (fun ht1 => ?_) (fun hf1 => no fun hc => by rw [h1.2 ((comp_reach hca).2 hc).1] at hf1; cases hf1)
    refine (hR15.ext hE28).ixL (i := b) (by omega) fun q3 row2 hrow2 hc3 => LD_sl hc3 ?_
    rw [matB_get (by omega)] at hrow2
    have hal : a < (rowB n (reachE E b)).length := by rw [rowB_len]; exact han
    refine hrow2.any.ixB hal fun q4 hc4 => LD_bool hc4 ?_
    have h3 := rowB_get hal
    generalize (rowB n (reachE E b))[a] = v2 at h3
    refine cond_b (fun ht2 => ?_) (fun hf2 => no fun hc => by rw [h3.2 ((comp_reach hca).2 hc).2] at hf2; cases hf2)
    have hcb : Comp E a b := (comp_reach hca).1 ⟨h1.1 ht1, h3.1 ht2⟩
    refine LD_bs0 hb8 ?_
    refine RUN_lit1 (α := Int) slt_int (b : Int) rfl (by decide) fun y w9 hE9 hO9 => ?_
    have hcl := compL_len E b a
    have hz9 := hE9.size_le
    refine RUN_append (α := Int) slt_int (hOl.ext hE9) (by omega) (hO9.rep (by intro x hx; rw [List.mem_singleton.1 hx]; show I64 _; unfold GX.I64; omega)).any (by simp; omega) (by simp [maxLen]; omega) fun lab' w10 hO10 hs10 => ?_
    have hz10 := hs10.size
    have hlabne : ∀ k, lab.v.ownBlock = some k → k ≠ px7.block := fun k hk he => by have := (hOl.blk k hk).1; omega
    have hlab18 : ∀ k, lab.v.ownBlock = some k → ¬ oB s18 k := fun k hk hh => by have := (hOl.blk k hk).1; have := (h18b k hh).2; omega
    have hb10 : Box w10 px7 T.t_s_waPart [lab.v, .int .i64 0, (⟨none, 0, 0⟩ : Sl).v] := (hb8.ext hE9).chg (D := oB lab) (.of_step hs10 fun k hk => hk) fun hh => hlabne _ hh rfl
    have hC9_10 : Chg w9 w10 (oB lab) := .of_step hs10 fun k hk => hk
    have hC7_10 : Chg w7 w10 (fun c => oB s18 c ∨ c = px7.block) := (hC8.trans (.of_ext hE9)).then' hC9_10 fun k hk hd => by have := (hOl.blk k hd).1; omega
    have hE2_10 : Ext w2 w10 := rd2 (hC7_10.mono fun c hc => hc.imp id fun he => by omega)
    have hz24 := hE24.size_le
    refine ST_boxC hb10 (by simp) rfl hE2_10 (by omega) fun w11 hC11 _ hb11 => ?_
    have hO18_11 : OwnL w11 w2.heap.size T.t_bool s18 (rowB n fun c => (∃ r ∈ rs, Comp E r c) ∨ (c < b ∧ Comp E a c)) := ((hO8.ext hE9).keep fun k hk => hs10.block k ((hO8.ext hE9).blk k hk).2 fun he => hlab18 k he.symm hk).keep fun k hk => hC11.block k (by have := (h18b k hk).2; omega) (h18ne k hk)
    have hOl11 : OwnL w11 w7.heap.size T.t_int lab' (compL E b a ++ [(b : Int)]) := hO10.keep fun k hk => hC11.block k (hO10.blk k hk).2 fun he => by have := (hO10.blk k hk).1; omega
    have hbl2 : b < (rowB n fun c => (∃ r ∈ rs, Comp E r c) ∨ (c < b ∧ Comp E a c)).length := by rw [rowB_len]; exact hb'
    refine IX_own hO18_11 hbl2 rfl fun q5 hq5 => ?_
    refine ST_own hO18_11 hbl2 hq5 true rfl fun w12 hO12 hs12 => ?_
    rw [rowB_set (Q := fun c => (∃ r ∈ rs, Comp E r c) ∨ (c < b + 1 ∧ Comp E a c)) ⟨fun _ => .inr ⟨by omega, hcb⟩, fun _ => rfl⟩ (fun c hc hne => ⟨fun hh => hh.imp id fun ⟨h1, h2⟩ => ⟨by omega, h2⟩, fun hh => hh.imp id fun ⟨h1, h2⟩ => ⟨by omega, h2⟩⟩)] at hO12
    have hC7_12 := (hC7_10.trans (hC11.mono fun c hc => .inr hc)).trans (.of_step hs12 fun k hk => .inl hk)
    refine next hC7_12 (hb11.chg (D := oB s18) (.of_step hs12 fun k hk => hk) fun hh => h18ne _ hh rfl) ?_ hO12
    rw [compL_succ, if_pos hcb]
    exact hOl11.keep fun k hk => hs12.block k (hOl11.blk k hk).2 fun he => by have h1 := (hOl11.blk k hk).1; have h2 := (h18b k he.symm).2; omega
  · have : b = n := by omega
    subst this
    have hO8' : OwnL w8 w2.heap.size T.t_bool s18 (rowB b fun c => ∃ r ∈ rs ++ [a], Comp E r c) := by
      have e : (rowB b fun c => (∃ r ∈ rs, Comp E r c) ∨ (c < b ∧ Comp E a c)) = rowB b fun c => ∃ r ∈ rs ++ [a], Comp E r c := rowB_congr fun c hc => ⟨fun hh => by
        rcases hh with ⟨r, h1, h2⟩ | ⟨_, h2⟩
        · exact ⟨r, List.mem_append_left _ h1, h2⟩
        · exact ⟨a, by simp, h2⟩, fun ⟨r, h1, h2⟩ => by
        rcases List.mem_append.1 h1 with h1 | h1
        · exact .inl ⟨r, h1, h2⟩
        · rw [List.mem_singleton.1 h1] at h2; exact .inr ⟨hc, h2⟩⟩
      rw [e] at hO8; exact hO8
    refine LD_is hb18 (LD_bs0 hb8 ?_)
    have hC64 : ∀ x ∈ compL E b a, I64 x := fun x hx => by
      obtain ⟨c, rfl, hc, _⟩ := compL_mem.1 hx
      unfold GX.I64; omega
    have hRl8 : R w8 lab (compL E b a) := (hOl.rep hC64).any
    have hcl := compL_len E b a
    have h0C : 0 < (compL E b a).length := List.length_pos_of_mem (compL_mem'.2 ⟨han, Comp.refl⟩)
    have hC0 : (compL E b a)[0] = (a : Int) := by
      obtain ⟨c, hb, hbn, hbc⟩ := compL_mem.1 (List.getElem_mem h0C)
      obtain ⟨i, hi, he⟩ := List.mem_iff_getElem.1 (compL_mem'.2 (show a < b ∧ Comp E a a from ⟨han, Comp.refl⟩))
      have hle : c ≤ a := by
        rcases Nat.eq_zero_or_pos i with rfl | hi0
        · rw [he] at hb; omega
        · have := List.pairwise_iff_getElem.1 (compL_sorted E b a) 0 i h0C hi hi0
          rw [he, hb] at this; omega
      by_cases hba : c = a
      · rw [hb, hba]
      · obtain ⟨r, hr, hx⟩ := hrs.cover c (by omega) (cyc_comp hbc hca)
        exact absurd (hx.trans hbc.symm) (hnc r hr)
    refine call (hdep (h2.ext hE28) hRl8 h0C hC0 han fun c => compL_mem') ?_
    rintro u w13 ⟨hE13, D, hOu, hD⟩
    have hz13 := hE13.size_le
    obtain ⟨hzr, hpot⟩ := hD.pot han hrel
    have hD64 := hD.I64
    have hdl := hD.len
    let d : Nat → Int := fun c => D.getD c 0
    have hdb : ∀ c, c < D.length → -1 ≤ d c ∧ d c ≤ b ∧ D[c]? = some (d c) := fun c hc => by
      have e : d c = D[c] := by show D.getD c 0 = _; rw [List.getD_eq_getElem?_getD, List.getElem?_eq_getElem hc]; rfl
      rw [e]
      have := hD64 _ (List.getElem_mem hc)
      exact ⟨this.1, this.2, List.getElem?_eq_getElem hc⟩
    have hRu13 : SlR (fun c => w8.heap.size ≤ c) w13 u D := hOu.rep fun x hx => by have := hD64 x hx; show I64 x; unfold GX.I64; omega
    have hE213 := hE28.trans hE13
    have hb113 := hb1.ext hE213
    refine LD_bs1 hb113 ?_
    rw [h2.arcs.len]
    have rdP : ∀ {w' : World}, Chg w13 w' (fun c => c = px7.block) → Ext w2 w' ∧ R w' lab (compL E b a) ∧ SlR (fun c => w8.heap.size ≤ c) w' u D := fun hC => ⟨hC.ext0 hE213 fun k hk => by have hz24 := hE24.size_le; omega, ((hOl.ext hE13).keep fun k hk => hC.block k ((hOl.ext hE13).blk k hk).2 fun he => by have := (hOl.blk k hk).1; omega).rep hC64 |>.any, hRu13.chg hC fun c hc _ he => by have h3 : w8.heap.size ≤ c := hc; have h4 : c = px7.block := he; omega⟩
    refine ⟨IN p.arcs.length fun j w' => Chg w13 w' (fun c => c = px7.block) ∧ ∃ P : Nat, Box w' px7 T.t_s_waPart [lab.v, .int .i64 (P : Int), (⟨none, 0, 0⟩ : Sl).v] ∧ P ≤ 100 ∧ ∀ g : Nat, g ∣ P ↔ ∀ x y, (arcE (p.arcs.take j) x y ∧ Comp E a x ∧ Comp E a y) → (g : Int) ∣ d x + 1 - d y, MN p.arcs.length, IN_zero ⟨Chg.refl _ _, 0, hb8.ext hE13, by omega, fun g => by simp [arcE]⟩, ?_⟩
    rintro _ w14 ⟨j, rfl, hj, hC14, P, hb14, hP100, hP⟩
    intros
    obtain ⟨hE214, hRl14, hRu14⟩ := rdP hC14
    refine cond_dec (fun hlt => ?_) (fun hge2 => ?_)
    · have hj' : j < p.arcs.length := by omega
      refine (h2.arcs.ext hE214).ixL hj' fun q row hrow hcr => LD_sl hcr (LD_bs0 hb14 ?_)
      obtain ⟨x, y, he, hx, hy⟩ := hg.arc (List.getElem_mem hj')
      rw [hnn] at hx hy
      rw [he] at hrow
      have hstep : ∀ c e, arcE (p.arcs.take (j + 1)) c e ↔ arcE (p.arcs.take j) c e ∨ (c = x ∧ e = y) := fun c e => by
        unfold arcE
        rw [List.take_succ_eq_append_getElem hj', he, List.mem_append, List.mem_singleton]
        simp only [List.cons.injEq, and_true, Int.natCast_inj]
      have skip : ¬ (Comp E a x ∧ Comp E a y) → ∀ {w' : World}, Ext w14 w' → IN p.arcs.length (fun j w' => Chg w13 w' (fun c => c = px7.block) ∧ ∃ P : Nat, Box w' px7 T.t_s_waPart [lab.v, .int .i64 (P : Int), (⟨none, 0, 0⟩ : Sl).v] ∧ P ≤ 100 ∧ ∀ g : Nat, g ∣ P ↔ ∀ x y, (arcE (p.arcs.take j) x y ∧ Comp E a x ∧ Comp E a y) → (g : Int) ∣ d x + 1 - d y) (IntKind.i64.wrap ((j : Int) + 1)) w' ∧ MN p.arcs.length (IntKind.i64.wrap ((j : Int) + 1)) w' < MN p.arcs.length (j : Int) w14 := fun hno {w'} hE' =>
        IN_next h2.arcs.le hj' ⟨hC14.trans (.of_ext hE'), P, hb14.ext hE', hP100, fun g => (hP g).trans ⟨fun hh c e ⟨h1, h3, h4⟩ => by
          rcases (hstep c e).1 h1 with h5 | ⟨rfl, rfl⟩
          · exact hh c e ⟨h5, h3, h4⟩
          · exact absurd ⟨h3, h4⟩ hno, fun hh c e ⟨h1, h3⟩ => hh c e ⟨(hstep c e).2 (.inl h1), h3⟩⟩⟩
      have hmem : ∀ c : Nat, c < b → ((compL E b a).contains (c : Int) = true ↔ Comp E a c) := fun c hcn => by
        rw [List.contains_iff_mem, compL_mem']
        exact ⟨fun hh => hh.2, fun hh => ⟨hcn, hh⟩⟩
      have has : ∀ {w' : World} (z : Int), Ext w14 w' → Calls Try.prog F.s_l1Has #[lab.v, .int .i64 z] w' (Ret [.at .bool] fun (c : Bool) w'' => c = (compL E b a).contains z ∧ Ext w' w'') := fun z hE' => by
        refine call (l1Has_ok (hRl14.ext hE') z) ?_
        rintro _ _ ⟨rfl, rfl⟩
        exact ⟨rfl, Ext.refl _⟩
      refine hrow.any.ixI (i := 0) (by simp) fun q3 _ hc3 => LD_int hc3 ?_
      refine QCALL_bool ((compL E b a).contains (x : Int)) (fun w' hE' => has _ hE') ?_
      refine cond_b (fun ht => LD_bs0 hb14 ?_) (fun hf w16 hE16 => skip (fun hh => by rw [(hmem x hx).2 hh.1] at hf; cases hf) hE16)
      refine hrow.any.ixI (i := 1) (by simp) fun q4 _ hc4 => LD_int hc4 ?_
      refine QCALL_bool ((compL E b a).contains (y : Int)) (fun w' hE' => has _ hE') ?_
      intro w15 hE15
      refine cond_b (fun ht2 => ?_) (fun hf2 => skip (fun hh => by rw [(hmem y hy).2 hh.2] at hf2; cases hf2) hE15)
      have hcx := (hmem x hx).1 ht
      have hcy := (hmem y hy).1 ht2
      intro w17 hE17 _
      have hE1417 := hE15.trans hE17
      have hrow17 := hrow.any.ext hE1417
      have hRu17 := hRu14.any.ext hE1417
      have hb17 := hb14.ext hE1417
      have hxl : x < D.length := by omega
      have hyl : y < D.length := by omega
      have cr := Chg.refl w17 (fun _ => False)
      refine ⟨fun _ => False, not_false, LD_bi1 hb17 ?_⟩
      refine hrow17.ixI (i := 0) (by simp) fun q5 _ hc5 => ⟨not_false, LD_int hc5 ?_⟩
      refine hRu17.ixI (i := x) hxl fun q6 _ hc6 => ⟨not_false, LD_int hc6 ⟨cr, ?_⟩⟩
      refine hrow17.ixI (i := 1) (by simp) fun q7 _ hc7 => ⟨cr, LD_int hc7 ⟨cr, ?_⟩⟩
      refine hRu17.ixI (i := y) hyl fun q8 _ hc8 => ⟨cr, LD_int hc8 ⟨cr, cr, ?_⟩⟩
      obtain ⟨a1, a2, a3⟩ := hdb x hxl
      obtain ⟨b1, b2, b3⟩ := hdb y hyl
      have ea : D[x] = d x := by rw [List.getElem?_eq_getElem hxl] at a3; exact Option.some.inj a3
      have eb : D[y] = d y := by rw [List.getElem?_eq_getElem hyl] at b3; exact Option.some.inj b3
      rw [ea, eb, wrap_of (n := d x + 1) (by omega) (by omega), wrap_of (n := d x + 1 - d y) (by omega) (by omega)]
      refine call (l1Abs_ok (x := d x + 1 - d y) (by omega) w17) ?_
      rintro _ _ ⟨rfl, rfl⟩
      refine ⟨cr, call (waGcd_ok (a := P) (b := (d x + 1 - d y).natAbs) w17) ?_⟩
      rintro _ w19 ⟨hE19, rfl⟩
      refine ⟨.of_ext hE19, ?_⟩
      have hE219 := hE214.trans (hE1417.trans hE19)
      have hz24 := hE24.size_le
      refine ST_boxC (hb17.ext hE19) (by simp) rfl hE219 (by omega) fun w20 hC20 _ hb20 => ?_
      refine IN_next h2.arcs.le hj' ⟨(hC14.trans (.of_ext (hE1417.trans hE19))).trans hC20, _, hb20, gcd_bound hP100 (by omega), fun g => ?_⟩
      rw [div_step hP g]
      constructor
      · intro hh c e ⟨h1, h3, h4⟩
        rcases (hstep c e).1 h1 with h5 | ⟨rfl, rfl⟩
        · exact hh c e (.inl ⟨h5, h3, h4⟩)
        · exact hh c e (.inr ⟨rfl, rfl⟩)
      · rintro hh c e (⟨h1, h3⟩ | ⟨rfl, rfl⟩)
        · exact hh c e ⟨(hstep c e).2 (.inl h1), h3⟩
        · exact hh c e ⟨(hstep c e).2 (.inr ⟨rfl, rfl⟩), hcx, hcy⟩
    · have : j = p.arcs.length := by omega
      subst this
      have hPd : ∀ g : Nat, g ∣ P ↔ PerDiv E a g := fun g => by
        rw [hP g, List.take_length, hEe, ← pot_div (d := d) hzr hpot g]
        exact ⟨fun hh x y h2 h3 h1 => hh x y ⟨h1, h2, h3⟩, fun hh x y ⟨h1, h2, h3⟩ => hh x y h2 h3 h1⟩
      obtain ⟨hPf, hP0⟩ := flex_of hPd hca
      refine LD_bs0 hb14 ?_
      rw [hRl14.len]
      have hz14 := hC14.size
      -- the residues
      refine ⟨IN (compL E b a).length fun i w' => Chg w14 w' (fun c => c = px7.block) ∧ ∃ (res : Sl) (X : List Int), Box w' px7 T.t_s_waPart [lab.v, .int .i64 (P : Int), res.v] ∧ OwnL w' w14.heap.size T.t_int res X ∧ X.length = i, MN (compL E b a).length, IN_zero ⟨Chg.refl _ _, ⟨none, 0, 0⟩, [], hb14, OwnL.nil _ _ _, rfl⟩, ?_⟩
      rintro _ w21 ⟨i, rfl, hi, hC21, res, X, hb21, hOr, hXl⟩
      intros
      have hC1321 := hC14.trans hC21
      obtain ⟨hE221, hRl21, hRu21⟩ := rdP hC1321
      have hz21 := hC21.size
      have hz24 := hE24.size_le
      refine cond_dec (fun hlt => ?_) (fun hge3 => ?_)
      · have hi' : i < (compL E b a).length := by omega
        refine hRl21.ixI hi' fun q _ hcq => LD_int hcq ?_
        obtain ⟨c, hc, hcb, hcc⟩ := compL_mem.1 (List.getElem_mem hi')
        rw [hc]
        intro w22 hE22 _
        have hz22 := hE22.size_le
        have hOr22 := hOr.ext hE22
        have hb22 := hb21.ext hE22
        have hcl2 : c < D.length := by omega
        have hresne : ¬ oB res px7.block := fun hh => by have := (hOr.blk _ hh).1; omega
        refine ⟨oB res, hresne, LD_bs2 hb22 ?_⟩
        have hRu22 : SlR (fun c => w8.heap.size ≤ c ∧ c < w14.heap.size) w22 u D := ((hRu13.below.weak (D' := fun c => w8.heap.size ≤ c ∧ c < w14.heap.size) (fun c hc _ => ⟨hc.1, by have := hc.2; omega⟩) RepP.pos).chg hC1321 (fun c hc _ he => by have h3 := hc.1; have h4 : c = px7.block := he; omega)).ext hE22
        refine slr_ixW hRu22 (i := c) hcl2 fun q2 hq2 hc2 => ⟨fun hh => by have h3 := (hOr.blk _ hh).1; have h4 := hq2.2; omega, LD_int hc2 ⟨Chg.refl _ _, ?_⟩⟩
        obtain ⟨a1, a2, a3⟩ := hdb c hcl2
        have ea : D[c] = d c := by rw [List.getElem?_eq_getElem hcl2] at a3; exact Option.some.inj a3
        have hnn : 0 ≤ d c := by
          obtain ⟨k, hk, _⟩ := hpot c hcc
          show (0 : Int) ≤ D.getD c 0
          omega
        rw [ea]
        refine LD_bi1 hb22 ⟨Chg.refl _ _, (by omega), Chg.refl _ _, ?_⟩
        have ht64 : I64 (Int.tmod (d c) (P : Int)) := by
          rw [Int.tmod_eq_emod_of_nonneg hnn]
          have h1 := Int.emod_nonneg (d c) (show (P : Int) ≠ 0 by omega)
          have h2 := Int.emod_lt_of_pos (d c) (show (0 : Int) < P by omega)
          unfold GX.I64; omega
        refine RUN_lit1 (α := Int) slt_int (Int.tmod (d c) (P : Int)) rfl (by decide) fun y w23 hE23 hO23 => ⟨.of_ext hE23, ?_⟩
        have hz23 := hE23.size_le
        refine RUN_append (α := Int) slt_int (hOr22.ext hE23) (by omega) (hO23.rep (by intro x hx; rw [List.mem_singleton.1 hx]; exact ht64)).any (by simp; omega) (by simp [maxLen]; omega) fun res' w24 hO24 hs24 => ?_
        have hC24 : Chg w22 w24 (oB res) := (Chg.of_ext hE23).trans (.of_step hs24 fun k hk => hk)
        refine ⟨hC24, ?_⟩
        have hz24' := hs24.size
        have hE224 : Ext w2 w24 := hs24.ext0 (hE221.trans (hE22.trans hE23)) fun k hk => by have := (hOr.blk k hk).1; omega
        refine ST_boxC (hb22.chg hC24 hresne) (by simp) rfl hE224 (by omega) fun w25 hC25 _ hb25 => ?_
        refine IN_next (by omega) hi' ⟨((hC21.trans (.of_ext hE22)).then' hC24 fun k hk hd => by have := (hOr.blk k hd).1; omega).trans hC25, res', X ++ [Int.tmod (d c) (P : Int)], hb25, hO24.keep fun k hk => hC25.block k (hO24.blk k hk).2 fun he => by have := (hO24.blk k hk).1; omega, by simp [hXl]⟩
      · have : i = (compL E b a).length := by omega
        subst this
        refine LD_sis hb21 ?_
        refine RUN_lit1 (α := WRec) slt_part ⟨lab, (P : Int), res⟩ rfl (by decide) fun y w26 hE26 hO26 => ?_
        have hz26 := hE26.size_le
        -- everything since w4
        have hC4_8 : Chg w4 w8 (oB s18) := (Chg.of_ext hE47).then' hC8 fun k hk hd => hd.resolve_right fun he => by omega
        have hC4_21 : Chg w4 w21 (oB s18) := (hC4_8.trans (.of_ext hE13)).then' hC1321 fun k hk hd => by omega
        have hX21 : PartsO w3.heap.size w21 x4 E b rs := hX4.keep hC4_21 fun c hc hd => by have := (h18b c hd).2; omega
        have hz13' := hC1321.size
        have hlabR : SlR (fun c => w4.heap.size ≤ c) w21 lab (compL E b a) := (((hOl.ext hE13).keep fun k hk => hC1321.block k ((hOl.ext hE13).blk k hk).2 fun he => by have := (hOl.blk k hk).1; omega).rep hC64).weak (fun c hc _ => by have h3 : w7.heap.size ≤ c := hc; omega) RepP.pos
        obtain ⟨recs, hOx4, hrl4, _⟩ := id hX4.ex
        have hrl := roots_len hrs
        have hla : SlR (fun c => w3.heap.size ≤ c ∧ x4.v.ownBlock ≠ some c) w26 lab (compL E b a) := (hlabR.weak (fun c hc _ => ⟨by have h3 : w4.heap.size ≤ c := hc; omega, fun he => by have h3 : w4.heap.size ≤ c := hc; have := (hOx4.blk c he).2; omega⟩) RepP.pos).ext hE26
        refine RUN_append_part hX21 (by omega) hE26 hla ⟨P, rfl, hP100, hPf⟩ (by omega) hO26 fun x4' w27 hX27 hs27 => ?_
        have hz27 := hs27.size
        have hE226 := hE221.trans hE26
        refine hk x4' w27 (hs27.ext0 hE226 fun k hk => by have := (hOx4.blk k hk).1; omega) (by omega) ?_ hX27
        have hO26' : OwnL w26 w2.heap.size T.t_bool s18 (rowB b fun c => ∃ r ∈ rs ++ [a], Comp E r c) := ((hO8'.ext hE13).keep fun k hk => hC1321.block k ((hO8'.ext hE13).blk k hk).2 (h18ne k hk)).ext hE26
        exact hO26'.keep fun k hk => hs27.block k (hO26'.blk k hk).2 fun he => by have h1 := (hOx4.blk k he.symm).1; have h3 := (h18b k hk).2; omega

theorem waParts_ok {w : World} {s : Sl} {p : WPr} (h : RWk w s p) (hg : WGood p) :
    Calls Try.prog F.s_waParts #[.agg #[.int .i64 p.labels, s.v]] w (Ret [.at .sl] fun (r : Sl) w' => Ext w w' ∧ ∃ rs, Roots (arcE p.arcs) p.labels.toNat rs ∧ PartsO 0 w' r (arcE p.arcs) p.labels.toNat rs) := by
  refine C_s_waParts ?_
  unfold V_s_waParts
  refine NEW_intro fun px1 w1 hp1 hs1 hE1 hb1 => LD_is hb1 ?_
  refine call (waReach_ok (h.ext hE1) hg) ?_
  rintro s15 w2 ⟨hE2, hR15⟩
  have hl := hg.lab
  have hb2 := hb1.ext hE2
  have hE12 := hE1.trans hE2
  refine LD_bi0 hb2 ?_
  obtain ⟨n, hn⟩ : ∃ n : Nat, p.labels = n := ⟨p.labels.toNat, by omega⟩
  have hnt : p.labels.toNat = n := by omega
  have hn12 : n ≤ 12 := by omega
  rw [hnt] at hR15 ⊢
  have hrun : ∀ {K : Sl → World → Prop}, RUN Try.prog (.at .sl) (Instr.makeSlice T.t_sl_bool (.int .i64 (n : Int)) (.int .i64 (n : Int))) w2 K → RUN Try.prog (.at .sl) (Instr.makeSlice T.t_sl_bool (.int .i64 p.labels) (.int .i64 p.labels)) w2 K := fun hk => by rw [hn]; exact hk
  refine hrun ?_
  refine RUN_make (α := Bool) slt_bool (d := false) rfl (by omega) (by unfold maxLen; omega) fun s18 w3 hE3 hO3 => ?_
  rw [← rowB_false n (P := fun b => ∃ r ∈ ([] : List Nat), Comp (arcE p.arcs) r b) (fun _ _ ⟨r, hr, _⟩ => by simp at hr)] at hO3
  have hz3 := hE3.size_le
  have h18b : ∀ k, oB s18 k → w2.heap.size ≤ k ∧ k < w3.heap.size := fun k hk => hO3.blk k hk
  have h2 := h.ext hE12
  refine ⟨fun (x4 : Sl) (x : Int) w' => ∃ a : Nat, x = a ∧ a ≤ n ∧ Ext w2 w' ∧ w3.heap.size ≤ w'.heap.size ∧ ∃ rs, Roots (arcE p.arcs) a rs ∧ OwnL w' w2.heap.size T.t_bool s18 (rowB n fun b => ∃ r ∈ rs, Comp (arcE p.arcs) r b) ∧ PartsO w3.heap.size w' x4 (arcE p.arcs) n rs, fun _ x _ => n - x.toNat, ⟨0, rfl, by omega, hE3, Nat.le_refl _, [], Roots.nil _, hO3, PartsO.nil _ _ _ _⟩, ?_⟩
  rintro x4 _ w4 ⟨a, rfl, ha, hE4, hz4, rs, hrs, hO18, hX4⟩
  intros
  have next : ∀ {x4' : Sl} {w' : World} {rs' : List Nat}, a < n → Ext w2 w' → w3.heap.size ≤ w'.heap.size → Roots (arcE p.arcs) (a + 1) rs' → OwnL w' w2.heap.size T.t_bool s18 (rowB n fun b => ∃ r ∈ rs', Comp (arcE p.arcs) r b) → PartsO w3.heap.size w' x4' (arcE p.arcs) n rs' → (∃ a' : Nat, IntKind.i64.wrap ((a : Int) + 1) = a' ∧ a' ≤ n ∧ Ext w2 w' ∧ w3.heap.size ≤ w'.heap.size ∧ ∃ rs, Roots (arcE p.arcs) a' rs ∧ OwnL w' w2.heap.size T.t_bool s18 (rowB n fun b => ∃ r ∈ rs, Comp (arcE p.arcs) r b) ∧ PartsO w3.heap.size w' x4' (arcE p.arcs) n rs) ∧ n - (IntKind.i64.wrap ((a : Int) + 1)).toNat < n - ((a : Int)).toNat := fun han k1 k2 k3 k4 k5 => by
    rw [wrap_of (by omega) (by omega)]
    exact ⟨⟨a + 1, by omega, by omega, k1, k2, _, k3, k4, k5⟩, by omega⟩
  refine LD_bi0 (hb2.ext hE4) (cond_dec (fun hlt => ?_) (fun hge => ?_))
  · have han : a < n := by omega
    have hal : a < (rowB n fun b => ∃ r ∈ rs, Comp (arcE p.arcs) r b).length := by rw [rowB_len]; exact han
    refine (hO18.rep fun _ _ => trivial).any.ixB hal fun q hc => LD_bool hc ?_
    have hd := rowB_get hal
    generalize (rowB n fun b => ∃ r ∈ rs, Comp (arcE p.arcs) r b)[a] = v at hd
    refine cond_b (fun ht => next han hE4 hz4 (hrs.skip fun _ => hd.1 ht) hO18 hX4) (fun hf => ?_)
    have hnc : ∀ r ∈ rs, ¬ Comp (arcE p.arcs) r a := fun r hr hc => by rw [hd.2 ⟨r, hr, hc⟩] at hf; cases hf
    have hm15 : (matB n (reachE (arcE p.arcs))).length = n := matB_len _ _
    refine (hR15.ext hE4).ixL (i := a) (by omega) fun q2 row hrow hc2 => LD_sl hc2 ?_
    rw [matB_get (by omega)] at hrow
    have hal2 : a < (rowB n (reachE (arcE p.arcs) a)).length := by rw [rowB_len]; exact han
    refine hrow.any.ixB hal2 fun q3 hc3 => LD_bool hc3 ?_
    have hr := rowB_get hal2
    generalize (rowB n (reachE (arcE p.arcs) a))[a] = v2 at hr
    refine cond_not (fun hf2 => next han hE4 hz4 (hrs.skip fun hc => (by rw [hr.2 hc] at hf2; cases hf2)) hO18 hX4) (fun ht2 => ?_)
    have hca : ∃ k, 0 < k ∧ Wk (arcE p.arcs) k a a := hr.1 ht2
    exact waParts_k4 (w3 := w3) h2 hg hnt hb2 hE4 hR15 hz3 hz4 h18b hO18 hX4 han hrs hca hnc fun x4' w' k1 k2 k3 k4 => next han k1 k2 (hrs.add hca hnc) k3 k4
  · have : a = n := by omega
    subst this
    refine ⟨hE12.trans hE4, rs, hrs, ?_⟩
    obtain ⟨recs, hO, hl2, hr2⟩ := hX4.ex
    exact ⟨recs, hO.low (by omega), hl2, fun j h1 h2 => ⟨(hr2 j h1 h2).1.weak (fun c hc _ => ⟨by omega, hc.2⟩) RepP.pos, (hr2 j h1 h2).2⟩⟩

end Go.Proofs.Ytnhidomgpbohiaa
end

section
/- Walk problems, the reference: flexible labels. -/
namespace Go.Proofs.Ytnhidomgpbohiaa
open Go.GX Go.RowKit
set_option maxRecDepth 100000

theorem slr_nil {α : Type} [RepP α] (D : Nat → Prop) (w : World) : SlR D w ⟨none, 0, 0⟩ ([] : List α) := ⟨rfl, ⟨Nat.le_refl _, by simp⟩, fun i x hx => by simp at hx⟩

theorem slr_ixW3 {D : Nat → Prop} {w : World} {s : Sl} {l : List WRec} (h : SlR D w s l) {i : Nat} (hi : i < l.length) {K : Addr → Prop} (hk : ∀ p, (∀ j v, [l[i].a.v, .int .i64 l[i].p, l[i].b.v][j]? = some v → w.cell? (p.add j) = some v) → K p) : IX s i 3 K :=
  h.ix rfl (by omega) (by omega) fun p cs hr hc => hk p fun j v hv => hc j v (by
    have hr' : cs = [l[i].a.v, .int .i64 l[i].p, l[i].b.v] := hr
    rw [hr']; exact hv)

theorem LD_wpart {w : World} {p : Addr} {x : WRec} {K : Sl → Int → Sl → Prop} (hc : ∀ (j : Nat) (v : Value), [x.a.v, .int .i64 x.p, x.b.v][j]? = some v → w.cell? (p.add j) = some v) (hk : K x.a x.p x.b) : LD [.sl, .int .i64, .sl] p w K := ⟨[x.a.v, .int .i64 x.p, x.b.v], rfl, fun j v hv => hc j v hv, hk⟩

theorem waFlexible_ok {w : World} {s : Sl} {p : WPr} (h : RWk w s p) (hg : WGood p) :
    Calls Try.prog F.s_waFlexible #[.agg #[.int .i64 p.labels, s.v]] w (Ret [.at .sl] fun (r : Sl) w' => Ext w w' ∧ SlR (fun b => w.heap.size ≤ b) w' r (flexL (arcE p.arcs) p.labels.toNat)) := by
  refine C_s_waFlexible ?_
  unfold V_s_waFlexible
  refine NEW_intro fun pp w1 hp1 hs1 hE1 hb1 => LD_is hb1 ?_
  refine call (waParts_ok (h.ext hE1) hg) ?_
  rintro t w2 ⟨hE2, rs, hrs, hPO⟩
  have hl := hg.lab
  generalize arcE p.arcs = E at *
  generalize hnn : p.labels.toNat = n at *
  have hn12 : n ≤ 12 := by omega
  obtain ⟨recs, hO, hrl, hr⟩ := hPO.ex
  have hRt : R w2 t recs := (hO.rep fun _ _ => trivial).any
  have hrln := roots_len hrs
  have hz1 := hE1.size_le
  have hz2 := hE2.size_le
  rw [hRt.len, hrl]
  have small : ∀ {m : List Int}, m.Pairwise (· < ·) → (∀ x ∈ m, ∃ r, x ∈ compL E n r) → m.length ≤ 12 := fun hs hm => by
    have := (lt_sub_sublist hs (show (allL n).Pairwise (· < ·) by unfold allL; rw [List.pairwise_map]; exact List.pairwise_lt_range.imp fun h => by omega) fun x hx => by
      obtain ⟨r, hx⟩ := hm x hx
      obtain ⟨a, rfl, ha, _⟩ := compL_mem.1 hx
      exact allL_mem.2 ⟨a, rfl, ha⟩).length_le
    simp [allL] at this
    omega
  refine ⟨IN2 rs.length fun i (out : Sl) w' => Ext w2 w' ∧ ∃ m, SlR (fun b => w2.heap.size ≤ b) w' out m ∧ m.Pairwise (· < ·) ∧ ∀ x, x ∈ m ↔ ∃ r ∈ rs.take i, Flex E r ∧ x ∈ compL E n r, MN2 rs.length, IN2_zero ⟨Ext.refl _, [], slr_nil _ _, List.Pairwise.nil, fun x => by simp⟩, ?_⟩
  rintro out _ w3 ⟨i, rfl, hi, hE3, m, hm, hms, hmx⟩
  intros
  refine cond_dec (fun hlt => ?_) (fun hge => ?_)
  · have hi' : i < rs.length := by omega
    have hir : i < recs.length := by omega
    obtain ⟨hlab, q0, hq0, _, hqf⟩ := hr i hir hi'
    have htk : rs.take (i + 1) = rs.take i ++ [rs[i]] := List.take_succ_eq_append_getElem hi'
    refine slr_ixW3 (hRt.ext hE3) hir fun q hc => ?_
    refine LD_wpart hc ?_
    refine NEW_ST (one3w _ _ _) rfl fun px w5 hpx hE5 hb5 => LD_bs0 hb5 ?_
    have hE35 := hE3.trans hE5
    have hz3 := hE3.size_le
    have hz5 := hE5.size_le
    have hRlab : R w5 recs[i].a (compL E n rs[i]) := (hlab.any).ext hE35
    rw [hRlab.len]
    refine ⟨IN2 (compL E n rs[i]).length fun j (o : Sl) w' => Ext w5 w' ∧ ∃ m, SlR (fun b => w2.heap.size ≤ b) w' o m ∧ m.Pairwise (· < ·) ∧ ∀ x, x ∈ m ↔ (∃ r ∈ rs.take i, Flex E r ∧ x ∈ compL E n r) ∨ (Flex E rs[i] ∧ x ∈ (compL E n rs[i]).take j), MN2 (compL E n rs[i]).length, IN2_zero ⟨Ext.refl _, m, hm.ext hE5, hms, fun x => (hmx x).trans (by simp)⟩, ?_⟩
    rintro o _ w6 ⟨j, rfl, hj, hE6, m6, hm6, hms6, hmx6⟩
    intros
    refine cond_dec (fun hlt2 => ?_) (fun hge2 => ?_)
    · have hj' : j < (compL E n rs[i]).length := by omega
      refine (hRlab.ext hE6).ixI hj' fun q2 h64 hc2 => LD_int hc2 (LD_bi1 (hb5.ext hE6) ?_)
      have htk2 : (compL E n rs[i]).take (j + 1) = (compL E n rs[i]).take j ++ [(compL E n rs[i])[j]] := List.take_succ_eq_append_getElem hj'
      have hcl := compL_len E n rs[i]
      have hz6 := hE6.size_le
      refine cond_eq (fun h1 => ?_) (fun hne => ?_)
      · have hF : Flex E rs[i] := hqf.1 (by rw [hq0] at h1; omega)
        have hml : m6.length ≤ 12 := small hms6 fun x hx => by
          rcases (hmx6 x).1 hx with ⟨r, _, _, h3⟩ | ⟨_, h3⟩
          · exact ⟨r, h3⟩
          · exact ⟨_, List.mem_of_mem_take h3⟩
        refine call (l1Put_D hm6 (by omega) hms6 h64) ?_
        rintro o' w7 ⟨hE7, m7, hm7, hms7, hmx7, _⟩
        refine IN2_next (by omega) hj' ⟨hE6.trans hE7, m7, hm7.weak (fun b hb _ => hb.elim id fun hb => by omega) RepP.pos, hms7, fun x => ?_⟩
        rw [hmx7, hmx6, htk2, List.mem_append, List.mem_singleton]
        constructor
        · rintro ((h2 | ⟨h2, h3⟩) | h2)
          · exact .inl h2
          · exact .inr ⟨h2, .inl h3⟩
          · exact .inr ⟨hF, .inr h2⟩
        · rintro (h2 | ⟨h2, h3 | h3⟩)
          · exact .inl (.inl h2)
          · exact .inl (.inr ⟨h2, h3⟩)
          · exact .inr h3
      · have hF : ¬ Flex E rs[i] := fun hf => hne (by rw [hq0, hqf.2 hf]; rfl)
        refine IN2_next (by omega) hj' ⟨hE6, m6, hm6, hms6, fun x => ?_⟩
        rw [hmx6]
        exact ⟨fun hh => hh.imp id fun ⟨h2, _⟩ => absurd h2 hF, fun hh => hh.imp id fun ⟨h2, _⟩ => absurd h2 hF⟩
    · have : j = (compL E n rs[i]).length := by omega
      subst this
      refine IN2_next (by omega) hi' ⟨hE35.trans hE6, m6, hm6, hms6, fun x => ?_⟩
      rw [hmx6, List.take_length]
      constructor
      · rintro (⟨r, h2, h3⟩ | h2)
        · exact ⟨r, by rw [htk]; exact List.mem_append_left _ h2, h3⟩
        · exact ⟨rs[i], by rw [htk]; exact List.mem_append_right _ (List.mem_singleton.2 rfl), h2⟩
      · rintro ⟨r, h2, h3⟩
        rw [htk] at h2
        rcases List.mem_append.1 h2 with h2 | h2
        · exact .inl ⟨r, h2, h3⟩
        · rw [List.mem_singleton.1 h2] at h3; exact .inr h3
  · have : i = rs.length := by omega
    subst this
    rw [List.take_length] at hmx
    have e : m = flexL E n := sorted_ext hms (flexL_sorted E n) fun x => by
      classical
      rw [hmx, ← flex_roots hrs (fs := rs.filter fun r => decide (Flex E r)) (fun r => by simp [List.mem_filter]) x, List.mem_flatMap]
      constructor
      · rintro ⟨r, h1, h2, h3⟩
        exact ⟨r, List.mem_filter.2 ⟨h1, by simpa using h2⟩, h3⟩
      · rintro ⟨r, h1, h3⟩
        rw [List.mem_filter] at h1
        exact ⟨r, h1.1, by simpa using h1.2, h3⟩
    rw [e] at hm
    exact ⟨(hE1.trans hE2).trans hE3, hm.weak (fun b hb _ => by omega) RepP.pos⟩

end Go.Proofs.Ytnhidomgpbohiaa
end

section
/- Arguments that come in, read as data: from the statements' own reading of memory to the rules' reading. No program is named here. -/
namespace Go.GX
open Go.RowKit Go.WideShapes Go.ChangeShapes Go.ChangeAt Go.Deep

/-- Whatever the statements read at type t is data of α in memory. -/
def Reads (P : Program) (t : TypeId) (α : Type) [Rep α] : Prop :=
  ∀ {H : Type} {enc : TypeId × Value → H} {w : World} {base : Nat} {spare : Nat → Bool} {held : Bool} {fuel : Nat} {cs : List Value} {x : DataW H × List MemPlace},
    DataW.trod enc P w base spare held fuel t cs = some x → ∃ a : α, Rep.rep (fun _ => True) w cs a

theorem Reads.int {P : Program} {t : TypeId} (ht : P.underlying t = some (.int .i64)) : Reads P t Int := fun h => by
  obtain ⟨n, rfl, _, hn⟩ := DataW.trod_int ht h
  exact ⟨n, rfl, bounds_i64 hn⟩

theorem Reads.slice {P : Program} {t e : TypeId} {α : Type} [RepP α] (ht : P.underlying t = some (.slice e)) (hc : P.cellsOf e = Rep.sz α) (he : Reads P e α) : Reads P t (List α) := by
  intro H enc w base spare held fuel cs x h
  rcases open_slice ht h with ⟨rfl, _⟩ | ⟨a, len, cap, m, n, D, Pl, rfl, hb, hl, hm, hmm, _, hx⟩
  · exact ⟨[], ⟨none, 0, 0⟩, rfl, rfl, ⟨Nat.le_refl _, Nat.zero_le _⟩, fun i x hx => by simp at hx⟩
  · have hlm : len ≤ m := by rw [hmm]; split <;> omega
    have hall : ∀ i : Fin len, ∃ z : α, ∃ cs', Rep.rep (fun _ => True) w cs' z ∧ ∀ j v, cs'[j]? = some v → w.cell? (a.add (i.1 * Rep.sz α + j)) = some v := fun i => by
      obtain ⟨cs', h1, h2⟩ := hx i.1 (by omega)
      obtain ⟨z, hz⟩ := he h2
      refine ⟨z, cs', hz, fun j v hj => ?_⟩
      obtain ⟨_, hlen, hcell⟩ := World.cells?_some h1
      have hj' : j < cs'.length := (List.getElem?_eq_some_iff.1 hj).1
      have := hcell j (by omega)
      rw [hj, add_add, hc] at this
      exact this
    refine ⟨List.ofFn fun i => (hall i).choose, ⟨some a, len, cap⟩, rfl, by simp, ⟨hl, by simpa [maxLen] using hm⟩, fun i x hx => ?_⟩
    rw [List.getElem?_ofFn] at hx
    split at hx
    · rename_i hi
      simp at hx
      subst hx
      obtain ⟨cs', h1, h2⟩ := (hall ⟨i, hi⟩).choose_spec
      exact ⟨a, cs', rfl, trivial, h1, h2⟩
    · cases hx

/-- A struct type whose fields have these types, each one cell, one after the other. -/
def fieldsB (P : Program) (t : TypeId) (ts : List TypeId) : Bool :=
  (match P.underlying t with | some (.struct fs) => fs.toList.map (fun f => (f.type, f.offset)) == ts.zipIdx | _ => false) && ts.all (fun u => P.cellsOf u == 1) && P.cellsOf t == ts.length

theorem fieldsB_struct {P : Program} {t : TypeId} {ts : List TypeId} (h : fieldsB P t ts = true) :
    ∃ fs, P.underlying t = some (.struct fs) ∧ fs.toList.map (fun f => (f.type, f.offset)) = ts.zipIdx ∧ (∀ u ∈ ts, P.cellsOf u = 1) ∧ P.cellsOf t = ts.length := by
  simp only [fieldsB, Bool.and_eq_true, List.all_eq_true, beq_iff_eq] at h
  obtain ⟨⟨h1, h2⟩, h3⟩ := h
  cases hu : P.underlying t with
  | none => rw [hu] at h1; cases h1
  | some u =>
    rw [hu] at h1
    cases u with
    | struct fs => exact ⟨fs, rfl, by simpa using h1, h2, h3⟩
    | _ => cases h1

theorem trod_fields {P : Program} {t : TypeId} {ts : List TypeId} (h : fieldsB P t ts = true) {H : Type} {enc : TypeId × Value → H} {w : World} {base : Nat} {spare : Nat → Bool} {held : Bool} {fuel : Nat} {cs : List Value} {x : DataW H × List MemPlace}
    (hx : DataW.trod enc P w base spare held fuel t cs = some x) : cs.length = ts.length ∧ ∀ (i : Nat) (u : TypeId), ts[i]? = some u → ∃ v n y, cs[i]? = some v ∧ DataW.trod enc P w base spare held n u [v] = some y := by
  obtain ⟨fs, hu, hm, h1, hc⟩ := fieldsB_struct h
  obtain ⟨xs, n, _, _, hl, hlen, hf⟩ := DataW.trod_struct hu hx
  refine ⟨hl.trans hc, fun i u hi => ?_⟩
  have hi' : i < ts.length := (List.getElem?_eq_some_iff.1 hi).1
  have hfl : fs.size = ts.length := by have := congrArg List.length hm; simpa using this
  have hg : (fs.toList.map (fun f => (f.type, f.offset)))[i]? = some (u, i) := by rw [hm]; simp [List.getElem?_zipIdx, hi]
  have hif : i < fs.size := by omega
  have hfi : fs[i]? = some fs[i] := by simp [hif]
  rw [List.getElem?_map] at hg
  simp [hif] at hg
  have := hf i fs[i] hfi
  have hci : i < cs.length := by omega
  rw [hg.1, hg.2, h1 u (List.mem_of_getElem? hi), List.drop_eq_getElem_cons hci, List.take_succ_cons, List.take_zero] at this
  refine ⟨cs[i], n, xs[i]'(by omega), by simp [hci], ?_⟩
  rw [this]; simp

/-- Arguments read again behind a call that wrote nothing of theirs. -/
theorem trodAll_stays {P : Program} (hl : laidOutB P = true) {H : Type} {enc : TypeId × Value → H} {W W' : World} (hb : Below W.heap.size W W') : ∀ (ts : List TypeId) (vs : List Value) (ds : List (DataW H)) (p : List MemPlace),
    (ts.all fun t => P.readableRec t && decide (t < P.types.size)) = true → DataW.TrodAll enc P W 0 (fun _ => true) true ts vs ds p → DataW.TrodAll enc P W' 0 (fun b => decide (b < W.heap.size)) true ts vs ds p
  | [], vs, ds, p, _, h => by
    obtain ⟨rfl, rfl, rfl⟩ := trodAll_nil h
    exact trodAll_mk0
  | t :: ts, vs, ds, p, ha, h => by
    simp only [List.all_cons, Bool.and_eq_true, decide_eq_true_eq] at ha
    obtain ⟨v, vs', d, ds', p', q', rfl, rfl, rfl, h1, h2⟩ := trodAll_cons h
    refine trodAll_cons_mk (Below.trod hl ha.1.1 ha.1.2 h1 hb ?_) (trodAll_stays hl hb ts vs' ds' q' ha.2 h2)
    obtain ⟨m, hm⟩ := h1
    exact DataW.trod_lt m _ _ _ hm

end Go.GX
end

section
/- The laws' arguments read as data: the types of this program. -/
namespace Go.Proofs.Ytnhidomgpbohiaa
open Go.GX Go.RowKit
set_option maxRecDepth 100000

theorem laidOut : laidOutB Try.prog = true := by kernel_rfl

theorem reads_int : Reads Try.prog T.t_int Int := Reads.int (by kernel_rfl)
theorem reads_ints : Reads Try.prog T.t_sl_int (List Int) := Reads.slice (e := T.t_int) (by kernel_rfl) (by kernel_rfl) reads_int

variable {H : Type} {enc : TypeId × Value → H} {w : World} {base b0 : Nat} {spare : Nat → Bool} {held : Bool} {r : Go.Reach} {v : Value} {d : DataW H} {p : List MemPlace}

theorem reads_intss : Reads Try.prog T.t_sl_sl_int (List (List Int)) := Reads.slice (e := T.t_sl_int) (by kernel_rfl) (by kernel_rfl) reads_ints

end Go.Proofs.Ytnhidomgpbohiaa
end

section
/- Arguments that are small structs, read as data. No program is named here. -/
namespace Go.GX
open Go.RowKit Go.WideShapes Go.ChangeShapes Go.ChangeAt Go.Deep

/-- An argument that is a struct of a number and a slice. -/
theorem open_is {P : Program} {t u0 u1 : TypeId} {α : Type} [RepP α] (hf : fieldsB P t [u0, u1] = true) (h0 : Reads P u0 Int) (h1 : Reads P u1 (List α))
    {H : Type} {enc : TypeId × Value → H} {w : World} {base b0 : Nat} {spare : Nat → Bool} {held : Bool} {r} {v : Value} {d : DataW H} {p : List MemPlace}
    (hv : Value.okWide P w r b0 t v) (h : DataW.Trod enc P w base spare held t v d p) : ∃ (a : Int) (c : Sl) (y : List α), v = .agg #[.int .i64 a, c.v] ∧ I64 a ∧ R w c y := by
  obtain ⟨fs, hu, _⟩ := fieldsB_struct hf
  obtain ⟨cs, rfl, _⟩ := okWide_struct hu hv
  obtain ⟨fuel, hx⟩ := h
  obtain ⟨hl, hx⟩ := trod_fields hf hx
  obtain ⟨v0, n0, y0, hv0, ht0⟩ := hx 0 u0 rfl
  obtain ⟨v1, n1, y1, hv1, ht1⟩ := hx 1 u1 rfl
  obtain ⟨a, ha, hA⟩ := h0 ht0
  obtain ⟨y, c, hc, hC⟩ := h1 ht1
  simp only [List.cons.injEq, and_true] at ha hc
  subst ha; subst hc
  refine ⟨a, c, y, ?_, hA, hC⟩
  congr 1
  apply Array.ext'
  apply List.ext_getElem?
  intro i
  match i with
  | 0 => simpa [Value.cells] using hv0
  | 1 => simpa [Value.cells] using hv1
  | i + 2 => simp [Value.cells] at hl; simp [hl]

end Go.GX
end

section
/- Walk problems as arguments: valid ones, both sides; read, counted, copied, held against each other. -/
namespace Go.Proofs.Ytnhidomgpbohiaa
open Go.GX Go.RowKit
set_option maxRecDepth 100000

theorem waHasLabels_ok {w : World} {s t : Sl} {x : Int} {l : List Int} (hp : 1 ≤ x ∧ x ≤ 12) (hl : R w t l) :
    Calls Try.prog F.i_WalkProblem_hasLabels #[.agg #[.int .i64 x, s.v], t.v] w (Ret [.at .bool] fun (b : Bool) w' => (b = true ↔ AllIn l 0 (x - 1)) ∧ Ext w w') := by
  refine C_i_WalkProblem_hasLabels ?_
  unfold V_i_WalkProblem_hasLabels
  refine NEW_intro fun pp w1 hp1 hs1 hE1 hb1 => LD_bi0 hb1 ?_
  rw [wrap_of (n := x - 1) (by omega) (by omega)]
  refine call (allWithin_ok (hl.ext hE1) _ _) ?_
  rintro b w2 ⟨h1, hE2⟩
  exact ⟨h1, hE1.trans hE2⟩

def ArcGood (x : Int) (r : List Int) : Prop := (r.length : Int) = 2 ∧ AllIn r 0 (x - 1)
theorem RowsUp.of {L : List (List Int)} {x : Int} (h3 : ∀ u (hu : u < L.length), ArcGood x L[u]) (h4 : ∀ u (hu : u + 1 < L.length), cmpL L[u] L[u + 1] < 0) : RowsUp L 2 x :=
  have key : ∀ r ∈ L, ArcGood x r := fun r hr => by
    obtain ⟨u, hu, rfl⟩ := List.mem_iff_getElem.1 hr
    exact h3 u hu
  ⟨fun r hr => (key r hr).1, fun r hr => (key r hr).2, h4⟩
theorem RowsUp.at {L : List (List Int)} {x : Int} (h : RowsUp L 2 x) {u : Nat} (hu : u < L.length) : ArcGood x L[u] := ⟨h.len _ (List.getElem_mem hu), h.lab _ (List.getElem_mem hu)⟩

theorem IsWalkProblem_ok {w : World} {s : Sl} {p : WPr} (h : RWk w s p) :
    Calls Try.prog F.i_IsWalkProblem #[.agg #[.int .i64 p.labels, s.v]] w (Ret [.at .bool] fun (b : Bool) w' => (b = true ↔ WGood p) ∧ Ext w w') := by
  refine C_i_IsWalkProblem ?_
  unfold V_i_IsWalkProblem
  refine NEW_intro fun pp w1 hp1 hs1 hE1 hb1 => LD_bi0 hb1 ?_
  have no : ∀ {w' : World}, Ext w w' → ¬ WGood p → ((false = true ↔ WGood p) ∧ Ext w w') := fun hE hn => ⟨⟨(fun h => by cases h), (fun h => absurd h hn)⟩, hE⟩
  refine call (within_ok _ _ _ _) ?_
  rintro _ _ ⟨rfl, rfl⟩
  refine cond_not (fun hf => no hE1 fun hg => ?_) (fun ht => LD_bs1 hb1 ?_)
  · have := hg.lab
    simp only [inR, Bool.and_eq_false_iff, decide_eq_false_iff_not] at hf
    omega
  have hl : 1 ≤ p.labels ∧ p.labels ≤ 12 := by simpa [inR] using ht
  have hle := h.arcs.le
  rw [h.arcs.len]
  refine ⟨IN p.arcs.length fun i w' => Ext w1 w' ∧ (∀ u < i, ∀ (hu : u < p.arcs.length), ArcGood p.labels p.arcs[u]) ∧ ∀ u, u + 1 < i → ∀ (hu : u + 1 < p.arcs.length), cmpL p.arcs[u] p.arcs[u + 1] < 0, MN p.arcs.length, IN_zero ⟨Ext.refl _, fun u hu => absurd hu (by omega), fun u hu => absurd hu (by omega)⟩, ?_⟩
  rintro _ w5 ⟨i, rfl, hi, hE5, h1, h2⟩
  intros
  have hE05 := hE1.trans hE5
  have hb5 := hb1.ext hE5
  refine cond_dec (fun hlt => ?_) (fun hge => ?_)
  rotate_left
  · have : i = p.arcs.length := by omega
    subst this
    exact ⟨by simp only [true_iff]; exact ⟨hl, RowsUp.of (fun u hu => h1 u hu hu) fun u hu => h2 u hu hu⟩, hE05⟩
  have hi' : i < p.arcs.length := by omega
  refine (h.arcs.ext hE05).ixL hi' fun q s1 hR1 hcq => LD_sl hcq ?_
  rw [hR1.len]
  refine cond_ne (fun hne => no hE05 fun hg => hne (hg.up.at hi').1) (fun heq => LD_is hb5 ?_)
  have hlen : (p.arcs[i].length : Int) = 2 := heq
  refine call (waHasLabels_ok hl hR1.any) ?_
  rintro y w6 ⟨hy, hE6⟩
  have hE06 := hE05.trans hE6
  refine cond_not (fun hf => no hE06 fun hg => by rw [hy.2 (hg.up.at hi').2] at hf; cases hf) (fun ht3 => ?_)
  have hrow : ArcGood p.labels p.arcs[i] := ⟨hlen, hy.1 ht3⟩
  have hE57 := hE5.trans hE6
  refine cond_dec (fun hpos => ?_) (fun hnp => IN_next hle hi' ⟨hE57, all_succ h1 fun _ => hrow, fun u hu => absurd hu (by omega)⟩)
  refine LD_bs1 (hb5.ext hE6) ?_
  obtain ⟨j, rfl⟩ : ∃ j, i = j + 1 := ⟨i - 1, by omega⟩
  rw [show ((j + 1 : Nat) : Int) - 1 = (j : Int) by omega, wrap_of (n := (j : Int)) (by omega) (by omega)]
  refine (h.arcs.ext hE06).ixL (i := j) (by omega) fun q s2 hR2 hc2 => LD_sl hc2 ?_
  refine call (compare_ok hR2.any (hR1.any.ext hE6)) ?_
  rintro _ _ ⟨rfl, rfl⟩
  refine cond_dec (fun hge => no hE06 fun hg => by have := hg.up.up j hi'; omega) (fun hlt2 => ?_)
  refine IN_next hle hi' ⟨hE57, all_succ h1 fun _ => hrow, fun u hu hu2 => ?_⟩
  by_cases he : u = j
  · subst he; omega
  · exact h2 u (by omega) hu2

theorem waArcs_ok {w : World} {s : Sl} {L : List (List Int)} {x : Int} (h : R w s L) (hl : 1 ≤ x ∧ x ≤ 12) :
    Calls Try.prog F.s_waArcs #[s.v, .int .i64 x] w (Ret [.at .bool] fun (b : Bool) w' => (b = true ↔ RowsUp L 2 x) ∧ Ext w w') := by
  refine C_s_waArcs ?_
  unfold V_s_waArcs
  have no : ∀ {w' : World}, Ext w w' → ¬ RowsUp L 2 x → ((false = true ↔ RowsUp L 2 x) ∧ Ext w w') := fun hE hn => ⟨⟨(fun h => by cases h), (fun h => absurd h hn)⟩, hE⟩
  have hle := h.le
  rw [h.len]
  refine ⟨IN L.length fun i w' => Ext w w' ∧ (∀ u < i, ∀ (hu : u < L.length), ArcGood x L[u]) ∧ ∀ u, u + 1 < i → ∀ (hu : u + 1 < L.length), cmpL L[u] L[u + 1] < 0, MN L.length, IN_zero ⟨Ext.refl _, fun u hu => absurd hu (by omega), fun u hu => absurd hu (by omega)⟩, ?_⟩
  rintro _ w5 ⟨i, rfl, hi, hE5, h1, h2⟩
  intros
  refine cond_dec (fun hlt => ?_) (fun hge => ?_)
  rotate_left
  · have : i = L.length := by omega
    subst this
    exact ⟨by simp only [true_iff]; exact RowsUp.of (fun u hu => h1 u hu hu) fun u hu => h2 u hu hu, hE5⟩
  have hi' : i < L.length := by omega
  refine (h.ext hE5).ixL hi' fun q s1 hR1 hcq => LD_sl hcq ?_
  rw [hR1.len, wrap_of (n := x - 1) (by omega) (by omega)]
  refine cond_ne (fun hne => no hE5 fun hg => hne (hg.at hi').1) (fun heq => ?_)
  have hlen : (L[i].length : Int) = 2 := heq
  refine call (l1All_ok hR1.any 0 (x - 1)) ?_
  rintro y _ ⟨hy, rfl⟩
  refine cond_not (fun hf => no hE5 fun hg => by rw [hy.2 (hg.at hi').2] at hf; cases hf) (fun ht3 => ?_)
  have hrow : ArcGood x L[i] := ⟨hlen, hy.1 ht3⟩
  refine cond_dec (fun hpos => ?_) (fun hnp => IN_next hle hi' ⟨hE5, all_succ h1 fun _ => hrow, fun u hu => absurd hu (by omega)⟩)
  obtain ⟨j, rfl⟩ : ∃ j, i = j + 1 := ⟨i - 1, by omega⟩
  rw [show ((j + 1 : Nat) : Int) - 1 = (j : Int) by omega, wrap_of (n := (j : Int)) (by omega) (by omega)]
  have hjr := h1 j (by omega) (by omega)
  refine (h.ext hE5).ixL (i := j) (by omega) fun q s2 hR2 hc2 => LD_sl hc2 ?_
  refine call (prOrder_ok (c := x - 1) hR2.any hR1.any (by have := hjr.1; omega) (by omega) hjr.2 hrow.2) ?_
  rintro _ _ ⟨rfl, rfl⟩
  refine cond_dec (fun hge => no hE5 fun hg => by have := hg.up j hi'; omega) (fun hlt2 => ?_)
  refine IN_next hle hi' ⟨hE5, all_succ h1 fun _ => hrow, fun u hu hu2 => ?_⟩
  by_cases he : u = j
  · subst he; omega
  · exact h2 u (by omega) hu2

theorem waGood_ok {w : World} {s : Sl} {p : WPr} (h : RWk w s p) :
    Calls Try.prog F.s_waGood #[.agg #[.int .i64 p.labels, s.v]] w (Ret [.at .bool] fun (b : Bool) w' => (b = true ↔ WGood p) ∧ Ext w w') := by
  refine C_s_waGood ?_
  unfold V_s_waGood
  refine NEW_intro fun pp w1 hp1 hs1 hE1 hb1 => LD_bi0 hb1 ?_
  refine call (l1In_ok _ _ _ _) ?_
  rintro _ _ ⟨rfl, rfl⟩
  refine cond_b (fun ht => LD_bs1 hb1 (LD_bi0 hb1 ?_)) (fun hf => ⟨⟨(fun h => by cases h), (fun hg => ?_)⟩, hE1⟩)
  · have hl : 1 ≤ p.labels ∧ p.labels ≤ 12 := by simpa [inR] using ht
    refine call (waArcs_ok (h.arcs.ext hE1) hl) ?_
    rintro b w2 ⟨hb, hE2⟩
    exact ⟨hb.trans ⟨fun hh => ⟨hl, hh⟩, fun hh => hh.up⟩, hE1.trans hE2⟩
  · have := hg.lab
    simp only [inR, Bool.and_eq_false_iff, decide_eq_false_iff_not] at hf
    omega

/-! ### Arguments -/

theorem szWalk_ok {w : World} {s : Sl} {p : WPr} (h : RWk w s p) (left : Int) (h0 : 0 ≤ left) (h1 : left ≤ 1048576) :
    Calls Try.prog F.l_szWalkProblem #[.agg #[.int .i64 p.labels, s.v], .int .i64 left] w (Ret [.at (.int .i64)] fun (x : Int) w' => (0 ≤ x → SmallM p.arcs) ∧ Ext w w') := by
  refine C_l_szWalkProblem ?_
  unfold V_l_szWalkProblem
  refine NEW_intro fun pa w1 hp hs hE hb => LD_bs1 hb ?_
  refine call (szIntSS_ok (h.arcs.ext hE) left h0 h1) ?_
  rintro x _ ⟨hx, rfl⟩
  refine cond_dec (fun hn => ⟨fun h => by omega, hE⟩) (fun hnn => ⟨fun _ => ?_, hE⟩)
  obtain ⟨a1, a2, a3⟩ := hx (by omega)
  exact ⟨by omega, fun r hr => by have := a3 r hr; omega⟩

theorem ST_boxW {w w0 : World} {p : Addr} {t : TypeId} {cs : List Value} {i : Nat} {v : Value} {K : World → Prop} (h : Box w p t cs) (hi : i < cs.length) (h1 : v.oneCell' = true) (hE : Ext w0 w) (hp : w0.heap.size ≤ p.block)
    (hk : ∀ w', Chg w w' (fun c => c = p.block) → Ext w0 w' → Box w' p t (cs.set i v) → K w') : GX.ST (p.add i) 0 [v] w K :=
  ST_box1 h hi h1 fun w' hz hb hX hB => by
    have hE' := hX w0 hE hp
    exact hk w' ⟨hE'.os.trans hE.os.symm, hE'.tape.trans hE.tape.symm, hE'.output.trans hE.output.symm, by omega, fun k _ hn => hb k hn⟩ hE' hB

theorem toWalk_ok {w : World} {s : Sl} {p : WPr} (h : RWk w s p) (hs : SmallM p.arcs) :
    Calls Try.prog F.l_toWalkProblem #[.agg #[.int .i64 p.labels, s.v]] w (Ret [.agg [.int .i64, .sl]] fun (x : Int) (z : Sl) w' => x = p.labels ∧ Ext w w' ∧ RWk w' z p) := by
  refine C_l_toWalkProblem ?_
  unfold V_l_toWalkProblem
  refine NEW_intro fun pa w1 hp1 hs1 hE1 hb1 => NEW_intro fun px w2 hp2 hs2 hE2 hb2 => NEW_intro fun po w3 hp3 hs3 hE3 hb3 => ?_
  have hE23 := hE2.trans hE3
  have hE03 := hE1.trans hE23
  have hz1 := hE1.size_le
  have hz2 := hE2.size_le
  have hz3 := hE3.size_le
  have ha3 := hb1.ext hE23
  have hx3 := hb2.ext hE3
  have hlt1 := hb1.lt
  have hlt2 := hb2.lt
  have hlt3 := hb3.lt
  have hml := hs.1
  refine LD_bi0 ha3 ?_
  refine ST_boxW hb3 (by simp) rfl hE03 (by omega) fun w4 hC4 hE04 hb4 => LD_bs1 (ha3.chg hC4 (by omega)) ?_
  have hz4 := hC4.size
  refine call (toIntSS_own (h.arcs.ext hE04) (by omega) (fun r hr => by have := hs.2 r hr; omega)) ?_
  rintro z w5 ⟨hE5, hO5⟩
  have hz5 := hE5.size_le
  have hE05 := hE04.trans hE5
  refine ST_boxW (hb4.ext hE5) (by simp) rfl hE05 (by omega) fun w6 hC6 hE06 hb6 => LD_is hb6 ?_
  have hz6 := hC6.size
  have hx6 := ((hx3.chg hC4 (by omega)).ext hE5).chg hC6 (by omega)
  refine ST_all hx6 (one2 p.labels z) rfl fun w7 hs7 hz7 hb7 => LD_is hb7 ?_
  have hO7 : Own2 w7 w.heap.size T.t_int T.t_sl_int z p.arcs := by
    obtain ⟨ss, k1, k2, k3⟩ := hO5
    have keepB : ∀ k, w4.heap.size ≤ k → k < w5.heap.size → w7.heap[k]? = w5.heap[k]? := fun k h1 h2 => by
      rw [hs7.block k (by omega) (by intro he; cases he; omega), hC6.block k h2 (by omega)]
    exact ⟨ss, (k1.keep fun k hk => keepB k (k1.blk k hk).1 (k1.blk k hk).2).low (by omega), k2, fun i r l hr hl => ((k3 i r l hr hl).keep fun k hk => keepB k ((k3 i r l hr hl).blk k hk).1 ((k3 i r l hr hl).blk k hk).2).low (by omega)⟩
  exact ⟨rfl, hs7.ext0 hE06 fun k hk => by cases hk; omega, ⟨h.lab, hO7.rep (flat_okII h.arcs)⟩⟩

theorem eqWalk_ok {w : World} {s t : Sl} {p : WPr} (h : RWk w s p) (h' : RWk w t p) :
    Calls Try.prog F.l_eqWalkProblem #[.agg #[.int .i64 p.labels, s.v], .agg #[.int .i64 p.labels, t.v]] w (Ret [.at .bool] fun (x : Bool) w' => x = true ∧ Ext w w') := by
  refine C_l_eqWalkProblem ?_
  unfold V_l_eqWalkProblem
  refine NEW_intro fun pa w1 hp1 hs1 hE1 hb1 => NEW_intro fun pb w2 hp2 hs2 hE2 hb2 => ?_
  have ha := hb1.ext hE2
  have hE := hE1.trans hE2
  refine LD_bi0 ha (LD_bi0 hb2 (cond_ne (fun h => absurd rfl h) (fun _ => LD_bs1 ha (LD_bs1 hb2 ?_))))
  refine call (eqIntSS_ok (h.arcs.ext hE) (h'.arcs.ext hE)) ?_
  rintro _ w3 ⟨rfl, hE3⟩
  exact cond_f (by simp) ⟨rfl, hE.trans hE3⟩

variable {H : Type} {enc : TypeId × Value → H} {w : World} {base b0 : Nat} {spare : Nat → Bool} {held : Bool} {v : Value} {d : DataW H} {p : List MemPlace}

theorem open_K {r} (hv : Value.okWide Try.prog w r b0 T.t_l_WalkProblem v) (h : DataW.Trod enc Try.prog w base spare held T.t_l_WalkProblem v d p) : ∃ (c : Sl) (q : WPr), v = .agg #[.int .i64 q.labels, c.v] ∧ RWk w c q := by
  obtain ⟨a, c, y, rfl, h0, h2⟩ := open_is (u0 := T.t_int) (u1 := T.t_sl_sl_int) (by kernel_rfl) reads_int reads_intss hv h
  exact ⟨c, ⟨a, y⟩, rfl, h0, h2⟩

end Go.Proofs.Ytnhidomgpbohiaa
end

section
/- A flexible label has closed walks of all lengths from the square of the number of labels on. No program in sight. -/
namespace Go.Proofs.Ytnhidomgpbohiaa
set_option maxRecDepth 100000

/-- Sums of a set of numbers whose only common divisor is one: all numbers from one on. -/
theorem frob {S : Nat → Prop} (h0 : S 0) (hadd : ∀ x y, S x → S y → S (x + y)) (hp : ∃ k, 0 < k ∧ S k) (hg : ∀ g, (∀ k, S k → g ∣ k) → g = 1) : ∃ N, ∀ k, N ≤ k → S k := by
  have hmul : ∀ q x, S x → S (q * x) := by
    intro q x hx
    induction q with
    | zero => simpa using h0
    | succ q ih => rw [Nat.succ_mul]; exact hadd _ _ ih hx
  have hone : ∀ d, 0 < d → (∃ x y, S x ∧ S y ∧ x = y + d) → ∃ x y, S x ∧ S y ∧ x = y + 1 := by
    intro d
    induction d using Nat.strongRecOn with
    | ind d ih =>
      rintro hd ⟨x, y, hx, hy, he⟩
      by_cases hall : ∀ k, S k → d ∣ k
      · have := hg d hall
        subst this
        exact ⟨x, y, hx, hy, he⟩
      · have ⟨k, hk⟩ := Classical.not_forall.1 hall
        have hSk : S k := Classical.byContradiction fun hn => hk fun h => absurd h hn
        have hnd : ¬ d ∣ k := fun h => hk fun _ => h
        have hr : 0 < k % d := Nat.pos_of_ne_zero fun h => hnd (Nat.dvd_of_mod_eq_zero h)
        refine ih (k % d) (Nat.mod_lt _ hd) hr ⟨k + (k / d) * y, (k / d) * x, hadd _ _ hSk (hmul _ _ hy), hmul _ _ hx, ?_⟩
        have hk2 := Nat.div_add_mod k d
        rw [he, Nat.mul_add, Nat.mul_comm (k / d) d]
        omega
  obtain ⟨k, hk, hSk⟩ := hp
  obtain ⟨x, y, hx, hy, rfl⟩ := hone k hk ⟨k, 0, hSk, h0, by omega⟩
  refine ⟨y * y, fun k hk => ?_⟩
  by_cases hy0 : y = 0
  · subst hy0
    have := hmul k (0 + 1) hx
    simpa using this
  · have h1 := Nat.div_add_mod k y
    have h2 := Nat.mod_lt k (Nat.pos_of_ne_zero hy0)
    have h3 : y ≤ k / y := (Nat.le_div_iff_mul_le (Nat.pos_of_ne_zero hy0)).2 hk
    have h4 := hadd _ _ (hmul (k / y - k % y) y hy) (hmul (k % y) (y + 1) hx)
    have e : (k / y - k % y) * y + k % y * (y + 1) = k := by
      rw [Nat.sub_mul, Nat.mul_add, Nat.mul_one, Nat.mul_comm (k / y) y]
      have h5 : k % y * y ≤ y * (k / y) := by
        rw [Nat.mul_comm y]
        exact Nat.mul_le_mul_right y (by omega)
      omega
    rwa [e] at h4

section
variable {E : Nat → Nat → Prop} {a b n s : Nat}

theorem wk_mul : ∀ {j a b}, Wk E (s * j) a b ↔ Wk (fun x y => Wk E s x y) j a b
  | 0, a, b => by rw [Nat.mul_zero]; exact Iff.rfl
  | j + 1, a, b => by
    rw [Nat.mul_succ]
    constructor
    · intro h
      obtain ⟨c, h1, h2⟩ := h.cut
      exact ⟨c, wk_mul.1 h1, h2⟩
    · rintro ⟨c, h1, h2⟩
      exact (wk_mul.2 h1).cat h2

/-- A walk with fewer steps than there are labels. -/
theorem Wk.short0 (hE : ∀ x y, E x y → y < n) : ∀ {k a b}, a < n → Wk E k a b → ∃ k', k' + 1 ≤ n ∧ Wk E k' a b := by
  intro k
  induction k using Nat.strongRecOn with
  | ind k ih =>
    intro a b ha h
    by_cases hkn : k + 1 ≤ n
    · exact ⟨k, hkn, h⟩
    · obtain ⟨v, h0, hb, hs⟩ := h.path
      by_cases hinj : ∃ i j, i < j ∧ j ≤ k ∧ v i = v j
      · obtain ⟨i, j, h2, h3, h4⟩ := hinj
        have w1 := Wk.of_path hs (i := 0) (j := i) (by omega) (by omega)
        have w2 := Wk.of_path hs (i := j) (j := k) (by omega) (by omega)
        rw [h0, h4] at w1
        rw [hb] at w2
        exact ih (i - 0 + (k - j)) (by omega) ha (w1.cat w2)
      · exfalso
        have hv : ∀ i, i ≤ k → v i < n := fun i hi => by
          rcases Nat.eq_zero_or_pos i with rfl | hp
          · rw [h0]; exact ha
          · obtain ⟨j, rfl⟩ : ∃ j, i = j + 1 := ⟨i - 1, by omega⟩
            exact hE _ _ (hs j (by omega))
        have hlen := nodup_length n ((List.range (k + 1)).map v) (by
          unfold List.Nodup
          rw [List.pairwise_map, List.pairwise_iff_getElem]
          intro i j hi hj hij
          simp only [List.length_range] at hi hj
          simp only [List.getElem_range]
          intro he
          exact hinj ⟨i, j, hij, by omega, he⟩) (fun x hx => by
          obtain ⟨i, hi, rfl⟩ := List.mem_map.1 hx
          exact hv i (by have := List.mem_range.1 hi; omega))
        rw [List.length_map, List.length_range] at hlen
        omega

theorem Wk.loops (h : E a a) : ∀ k, Wk E k a a
  | 0 => rfl
  | k + 1 => ⟨a, Wk.loops h k, h⟩

theorem flex_all (hE : ∀ x y, E x y → y < n) (h : Flex E a) : ∀ k, n * n ≤ k → Wk E k a a := by
  intro k hk
  obtain ⟨k0, hk0, hw0⟩ := h.1
  have han : a < n := hw0.lt hE hk0
  obtain ⟨s, hs1, hsn, hs⟩ := hw0.short hE hk0
  have hsl : s * (n - 1) ≤ k := by
    have h1 : s * (n - 1) ≤ n * (n - 1) := Nat.mul_le_mul_right _ hsn
    have h2 : n * (n - 1) ≤ n * n := Nat.mul_le_mul_left _ (by omega)
    omega
  -- round the closed walk
  have hround : ∃ v, Wk E (k - s * (n - 1)) a v ∧ Wk E s v v ∧ v < n ∧ ∃ i, Wk E i v a := by
    generalize k - s * (n - 1) = m
    have hm := Nat.div_add_mod m s
    have hr := Nat.mod_lt m (show s > 0 by omega)
    have h1 : Wk E (s * (m / s)) a a := wk_mul.2 (Wk.loops hs _)
    obtain ⟨d, hd⟩ : ∃ d, s = m % s + d := ⟨s - m % s, by omega⟩
    have hs2 := hs
    rw [hd] at hs2
    obtain ⟨v, h2, h3⟩ := hs2.cut
    have h4 := h1.cat h2
    rw [hm] at h4
    have h5 := h3.cat h2
    rw [Nat.add_comm, ← hd] at h5
    exact ⟨v, h4, h5, h5.lt hE hs1, d, h3⟩
  obtain ⟨v, hav, hvv, hvn, hva⟩ := hround
  -- all large lengths
  have hc : Comp E a v := ⟨⟨_, hav⟩, hva⟩
  have hfv := h.comp hc
  obtain ⟨N, hN⟩ := frob (S := fun k => Wk E k v v) rfl (fun x y h1 h2 => h1.cat h2) hfv.1 hfv.2
  obtain ⟨l, hl⟩ := hc.2
  have hbig : Wk E (s * (N + l)) v a := by
    have h1 : N ≤ s * (N + l) - l := by
      have : 1 * (N + l) ≤ s * (N + l) := Nat.mul_le_mul_right _ hs1
      omega
    have h2 := (hN _ h1).cat hl
    have e : s * (N + l) - l + l = s * (N + l) := by
      have : 1 * (N + l) ≤ s * (N + l) := Nat.mul_le_mul_right _ hs1
      omega
    rwa [e] at h2
  obtain ⟨j, hj, hw⟩ := Wk.short0 (E := fun x y => Wk E s x y) (n := n) (fun x y hxy => Wk.lt hE hxy hs1) hvn (wk_mul.1 hbig)
  have h6 := (Wk.loops (E := fun x y => Wk E s x y) hvv (n - 1 - j)).cat hw
  have e : n - 1 - j + j = n - 1 := by omega
  rw [e] at h6
  have h7 := hav.cat (wk_mul.2 h6)
  have e2 : k - s * (n - 1) + s * (n - 1) = k := by omega
  rwa [e2] at h7

end
end Go.Proofs.Ytnhidomgpbohiaa
end

section
/- Levels of marks for a walk problem: both sides. -/
namespace Go.GX
open Go.RowKit

/-- A quiet call with a number and a truth value as its answer. -/
theorem QCALL_ib {P : Program} {f : FuncId} {args : Array Value} {w : World} {K : Int → Bool → Prop} (b : Int) (c : Bool)
    (h : ∀ w', Ext w w' → Calls P f args w' (Ret [.at (.int .i64), .at .bool] fun (x : Int) (y : Bool) w'' => x = b ∧ y = c ∧ Ext w' w'')) (hk : K b c) : QCALL P f args w [.at (.int .i64), .at .bool] K :=
  ⟨.tuple #[.int .i64 b, .bool c], [.int .i64 b, .bool c], rfl, fun w' hw => (h w' hw).mono fun e w'' he => by
    cases e with
    | returned v =>
      simp only [Ret] at he
      cases hu : unR [.at (.int .i64), .at .bool] v with
      | none => rw [hu] at he; exact he.elim
      | some vs =>
        rw [hu] at he
        have hv := mkR_unR hu
        have h' : app botW (atsR [.at (.int .i64), .at .bool]) (cur (atsR [.at (.int .i64), .at .bool]) fun vs w0 => vs = [.int .i64 b, .bool c] ∧ Ext w' w0) vs w'' := app_le (l := atsR [.at (.int .i64), .at .bool]) (fun (x : Int) (y : Bool) w0 (hh : x = b ∧ y = c ∧ Ext w' w0) => ⟨by rw [hh.1, hh.2.1], hh.2.2⟩) he
        obtain ⟨rfl, h3⟩ := app_curW h'
        exact ⟨by rw [← hv]; rfl, h3⟩
    | panicked _ => exact he.elim
    | outgrown => exact he.elim, hk⟩

end Go.GX
namespace Go.Proofs.Ytnhidomgpbohiaa
open Go.GX Go.RowKit
set_option maxRecDepth 100000

/-- The length from which on there are closed walks of all lengths. -/
def FlexIs (E : Nat → Nat → Prop) (a : Nat) (x : Int) : Prop := ∃ k : Nat, x = (k : Int) + 1 ∧ (k = 0 ∨ ¬ Wk E k a a) ∧ ∀ j, k < j → Wk E j a a
theorem FlexIs.unique {E : Nat → Nat → Prop} {a : Nat} {x y : Int} (h : FlexIs E a x) (h' : FlexIs E a y) : x = y := by
  obtain ⟨k, rfl, h1, h2⟩ := h
  obtain ⟨j, rfl, h3, h4⟩ := h'
  have e : k = j := by
    rcases Nat.lt_trichotomy k j with hlt | he | hgt
    · rcases h3 with h3 | h3
      · omega
      · exact absurd (h2 j hlt) h3
    · exact he
    · rcases h1 with h1 | h1
      · omega
      · exact absurd (h4 k hgt) h1
  rw [e]

theorem flexibilityOf_ok {w : World} {s : Sl} {p : WPr} {a : Nat} (h : RWk w s p) (hg : WGood p) (ha : a < p.labels.toNat) (hF : Flex (arcE p.arcs) a) :
    Calls Try.prog F.i_WalkProblem_flexibilityOf #[.agg #[.int .i64 p.labels, s.v], .int .i64 a] w (Ret [.at (.int .i64)] fun (x : Int) w' => Ext w w' ∧ FlexIs (arcE p.arcs) a x ∧ x ≤ 1000) := by
  refine C_i_WalkProblem_flexibilityOf ?_
  unfold V_i_WalkProblem_flexibilityOf
  refine NEW_intro fun pp w1 hp1 hs1 hE1 hb1 => LD_is hb1 ?_
  have hl := hg.lab
  have hrel : ∀ x y, arcE p.arcs x y → y < p.labels.toNat := fun x y hxy => (hg.rel hxy).2
  have hall := flex_all hrel hF
  refine call (reached_ok (m := 288) (h.ext hE1) hg ha (by omega)) ?_
  rintro t w2 ⟨hE2, hO2⟩
  generalize arcE p.arcs = E at *
  generalize hnn : p.labels.toNat = n at *
  have hn12 : n ≤ 12 := by omega
  have hnsq : n * n ≤ 144 := Nat.mul_le_mul hn12 hn12
  have hR : R w2 t (reachL E n a (288 + 1)) := (hO2.rep (reachL_I64 hn12)).any
  have hE := hE1.trans hE2
  have e0 : IntKind.i64.wrap ((t.len : Int) - 1) = ((288 : Nat) : Int) := by rw [hR.len, reachL_len, wrap_of (by omega) (by omega)]; rfl
  rw [e0]
  refine ⟨fun (x : Int) w' => w2 = w' ∧ ∃ k : Nat, x = k ∧ k ≤ 288 ∧ ∀ j, k < j → Wk E j a a, fun x _ => x.toNat, ⟨rfl, 288, rfl, by omega, fun j hj => hall j (by omega)⟩, ?_⟩
  rintro _ _ ⟨rfl, k, rfl, hk, hj⟩
  intros
  have fin : (k = 0 ∨ ¬ Wk E k a a) → Ext w w2 ∧ FlexIs E a (IntKind.i64.wrap ((k : Int) + 1)) ∧ IntKind.i64.wrap ((k : Int) + 1) ≤ 1000 := fun hc => by
    rw [wrap_of (by omega) (by omega)]
    exact ⟨hE, ⟨k, rfl, hc, hj⟩, by omega⟩
  refine cond_dec (fun hpos => ?_) (fun hz => fin (.inl (by omega)))
  have hkl : k < (reachL E n a (288 + 1)).length := by rw [reachL_len]; omega
  refine hR.ixI hkl fun q _ hc => LD_int hc ⟨by omega, ?_⟩
  classical
  rw [reachL_get hkl, bit_maskP hn12 ha]
  by_cases hw : Wk E k a a
  · rw [if_pos hw]
    refine cond_t (by rfl) ?_
    rw [wrap_of (by omega) (by omega)]
    refine ⟨⟨rfl, k - 1, by omega, by omega, fun j hj2 => ?_⟩, by simp only []; omega⟩
    by_cases hjk : j = k
    · subst hjk; exact hw
    · exact hj j (by omega)
  · rw [if_neg hw]
    exact cond_f (by rfl) (fin (.inr hw))

theorem waFlexibility_ok {w : World} {s : Sl} {p : WPr} {a : Nat} (h : RWk w s p) (hg : WGood p) (ha : a < p.labels.toNat) (hF : Flex (arcE p.arcs) a) :
    Calls Try.prog F.s_waFlexibility #[.agg #[.int .i64 p.labels, s.v], .int .i64 a] w (Ret [.at (.int .i64)] fun (x : Int) w' => Ext w w' ∧ FlexIs (arcE p.arcs) a x ∧ x ≤ 1000) := by
  refine C_s_waFlexibility ?_
  unfold V_s_waFlexibility
  refine NEW_intro fun pp w1 hp1 hs1 hE1 hb1 => LD_is hb1 (LD_bi0 hb1 (LD_bi0 hb1 ?_))
  have hl := hg.lab
  have hrel : ∀ x y, arcE p.arcs x y → y < p.labels.toNat := fun x y hxy => (hg.rel hxy).2
  have hall := flex_all hrel hF
  obtain ⟨n, hn⟩ : ∃ n : Nat, p.labels = n := ⟨p.labels.toNat, by omega⟩
  have hnt : p.labels.toNat = n := by omega
  have hn12 : n ≤ 12 := by omega
  have hnsq : n * n ≤ 144 := Nat.mul_le_mul hn12 hn12
  have em : IntKind.i64.wrap (IntKind.i64.wrap (p.labels * p.labels) + 1) = ((n * n + 1 : Nat) : Int) := by
    have e1 : p.labels * p.labels = ((n * n : Nat) : Int) := by rw [hn]; push_cast; rfl
    rw [e1, wrap_of (n := ((n * n : Nat) : Int)) (by omega) (by omega), wrap_of (by omega) (by omega)]
    rfl
  have hpow := waPowers_ok (m := n * n + 1) (h.ext hE1) hg (by omega)
  rw [← em] at hpow
  refine call hpow ?_
  rintro t w2 ⟨hE2, hR2⟩
  rw [hnt] at hR2 ha hall hrel
  clear hpow
  generalize arcE p.arcs = E at *
  have hR : R w2 t (powL E n (n * n + 1 + 1)) := hR2.any
  have hE := hE1.trans hE2
  have e0 : IntKind.i64.wrap ((t.len : Int) - 1) = ((n * n + 1 : Nat) : Int) := by rw [hR.len, powL_len, wrap_of (by omega) (by omega)]; omega
  rw [e0]
  refine ⟨fun (x : Int) w' => w2 = w' ∧ ∃ k : Nat, x = k ∧ k ≤ n * n + 1 ∧ ∀ j, k < j → Wk E j a a, fun x _ => x.toNat, ⟨rfl, n * n + 1, rfl, by omega, fun j hj => hall j (by omega)⟩, ?_⟩
  rintro _ _ ⟨rfl, k, rfl, hk, hj⟩
  intros
  have fin : (k = 0 ∨ ¬ Wk E k a a) → Ext w w2 ∧ FlexIs E a (IntKind.i64.wrap ((k : Int) + 1)) ∧ IntKind.i64.wrap ((k : Int) + 1) ≤ 1000 := fun hc => by
    rw [wrap_of (by omega) (by omega)]
    exact ⟨hE, ⟨k, rfl, hc, hj⟩, by omega⟩
  refine cond_dec (fun hpos => ?_) (fun hz => fin (.inl (by omega)))
  have hkl : k < (powL E n (n * n + 1 + 1)).length := by rw [powL_len]; omega
  refine hR.ixL hkl fun q m hm hc => LD_sl hc ?_
  rw [powL_get hkl] at hm
  have hal : a < (matB n (Wk E k)).length := by rw [matB_len]; exact ha
  refine hm.any.ixL hal fun q2 row hrow hc2 => LD_sl hc2 ?_
  rw [matB_get hal] at hrow
  have hal2 : a < (rowB n (Wk E k a)).length := by rw [rowB_len]; exact ha
  refine hrow.any.ixB hal2 fun q3 hc3 => LD_bool hc3 ?_
  have hv := rowB_get hal2
  generalize (rowB n (Wk E k a))[a] = v at hv
  refine cond_b (fun ht => ?_) (fun hf => fin (.inr fun hw => by rw [hv.2 hw] at hf; cases hf))
  rw [wrap_of (by omega) (by omega)]
  refine ⟨⟨rfl, k - 1, by omega, by omega, fun j hj2 => ?_⟩, by simp only []; omega⟩
  by_cases hjk : j = k
  · subst hjk; exact hv.1 ht
  · exact hj j (by omega)

/-- How often two is taken to reach a number. -/
def LvlIs (x : Int) (l : Nat) : Prop := x ≤ ((2 ^ l : Nat) : Int) ∧ ∀ j, j < l → ((2 ^ j : Nat) : Int) < x
theorem LvlIs.unique {x : Int} {l m : Nat} (h : LvlIs x l) (h' : LvlIs x m) : l = m := by
  rcases Nat.lt_trichotomy l m with hlt | he | hgt
  · have := h'.2 l hlt; have := h.1; omega
  · exact he
  · have := h.2 m hgt; have := h'.1; omega
theorem lvl_few {x : Int} (hx : x ≤ 1000) {l : Nat} (h : ∀ j, j < l → ((2 ^ j : Nat) : Int) < x) : l ≤ 10 := by
  rcases Nat.lt_or_ge 10 l with hlt | hge
  · have h1 := h 10 hlt
    have h2 : (2 : Nat) ^ 10 = 1024 := by decide
    omega
  · exact hge

/-- What LevelsFor answers. -/
structure LvAns (p : WPr) (x : Int) (o : Bool) : Prop where
  ok : o = true ↔ WGood p ∧ flexL (arcE p.arcs) p.labels.toNat ≠ []
  yes : o = true → ∃ (a : Nat) (y : Int) (l : Nat), (flexL (arcE p.arcs) p.labels.toNat).head? = some (a : Int) ∧ FlexIs (arcE p.arcs) a y ∧ LvlIs y l ∧ x = l
  no : o = false → x = 0
theorem LvAns.eq {p : WPr} {x y : Int} {a b : Bool} (h : LvAns p x a) (h' : LvAns p y b) : x = y ∧ a = b := by
  have e : a = b := by rw [Bool.eq_iff_iff, h.ok, h'.ok]
  subst e
  refine ⟨?_, rfl⟩
  cases a with
  | false => rw [h.no rfl, h'.no rfl]
  | true =>
    obtain ⟨c, u, l, h1, h2, h3, h4⟩ := h.yes rfl
    obtain ⟨c', u', l', h5, h6, h7, h8⟩ := h'.yes rfl
    rw [h1] at h5
    have : c = c' := by have := Option.some.inj h5; omega
    subst this
    have := h2.unique h6
    subst this
    rw [h4, h8, h3.unique h7]

theorem flex_head {E : Nat → Nat → Prop} {n : Nat} (h0 : 0 < (flexL E n).length) : ∃ a : Nat, (flexL E n)[0] = (a : Int) ∧ a < n ∧ Flex E a ∧ (flexL E n).head? = some (a : Int) := by
  obtain ⟨a, ha, han, hF⟩ := flexL_mem.1 (List.getElem_mem h0)
  exact ⟨a, ha, han, hF, by rw [List.head?_eq_getElem?, List.getElem?_eq_getElem h0, ha]⟩

theorem LevelsFor_ok {w : World} {s : Sl} {p : WPr} (h : RWk w s p) :
    Calls Try.prog F.i_LevelsFor #[.agg #[.int .i64 p.labels, s.v]] w (Ret [.at (.int .i64), .at .bool] fun (x : Int) (ok : Bool) w' => Ext w w' ∧ LvAns p x ok) := by
  refine C_i_LevelsFor ?_
  unfold V_i_LevelsFor
  refine NEW_intro fun pp w1 hp1 hs1 hE1 hb1 => LD_is hb1 ?_
  refine call (IsWalkProblem_ok (h.ext hE1)) ?_
  rintro b w2 ⟨hb, hE2⟩
  have hE12 := hE1.trans hE2
  have no : ∀ {w' : World}, Ext w w' → ¬ (WGood p ∧ flexL (arcE p.arcs) p.labels.toNat ≠ []) → Ext w w' ∧ LvAns p 0 false := fun hE hn => ⟨hE, ⟨(fun hh => by cases hh), (fun hh => absurd hh hn)⟩, (fun hh => by cases hh), fun _ => rfl⟩
  refine cond_not (fun hf => no hE12 fun hh => by rw [hb.2 hh.1] at hf; cases hf) (fun ht => LD_is (hb1.ext hE2) ?_)
  have hg := hb.1 ht
  have hl := hg.lab
  refine call (flexibleLabels_ok (h.ext hE12) hg) ?_
  rintro r w3 ⟨hE3, hO3⟩
  have hE13 := hE2.trans hE3
  have hE03 := hE12.trans hE3
  have hrl : r.len = (flexL (arcE p.arcs) p.labels.toNat).length := hO3.1
  rw [hrl]
  refine cond_eq (fun h0 => no hE03 fun hh => hh.2 (List.length_eq_zero_iff.1 (by omega))) (fun hne => ?_)
  have h0 : 0 < (flexL (arcE p.arcs) p.labels.toNat).length := by omega
  unfold V_i_LevelsFor_k1
  intro w5 hE5 _
  have hb5 := hb1.ext (hE13.trans hE5)
  have hE05 := hE03.trans hE5
  refine LD_is hb5 (LD_is hb5 ⟨Ext.refl _, ?_⟩)
  refine call (flexibleLabels_ok (h.ext hE05) hg) ?_
  rintro r2 w6 ⟨hE6, hO6⟩
  have hR6 := (hO6.rep (flexL_I64 (by omega))).any
  obtain ⟨a, ha, han, hF, hhd⟩ := flex_head h0
  refine ⟨hE6, hR6.ixI (i := 0) h0 fun q _ hc => ⟨hE6, LD_int hc ⟨hE6, ?_⟩⟩⟩
  rw [ha]
  have hE06 := hE05.trans hE6
  refine call (flexibilityOf_ok (h.ext hE06) hg han hF) ?_
  rintro y w7 ⟨hE7, hFl, hy⟩
  have hE07 := hE06.trans hE7
  refine ⟨fun (x : Int) w' => w7 = w' ∧ ∃ l : Nat, x = l ∧ ∀ j, j < l → ((2 ^ j : Nat) : Int) < y, fun x _ => 11 - x.toNat, ⟨rfl, 0, rfl, fun j hj => by omega⟩, ?_⟩
  rintro _ _ ⟨rfl, l, rfl, hj⟩
  intros
  have hl10 := lvl_few hy hj
  refine ⟨by omega, ?_⟩
  rw [shl_one (by omega)]
  refine cond_dec (fun hlt => ?_) (fun hge => ⟨hE07, ⟨fun _ => ⟨hg, fun hn => by rw [hn] at h0; simp at h0⟩, fun _ => rfl⟩, fun _ => ⟨a, y, l, hhd, hFl, ⟨by omega, hj⟩, rfl⟩, fun hh => by cases hh⟩)
  have hl11 := lvl_few (l := l + 1) hy fun j hj2 => by
    by_cases he : j = l
    · subst he; exact hlt
    · exact hj j (by omega)
  rw [wrap_of (by omega) (by omega)]
  refine ⟨⟨rfl, l + 1, by omega, fun j hj2 => ?_⟩, by simp only []; omega⟩
  by_cases he : j = l
  · subst he; exact hlt
  · exact hj j (by omega)

theorem sFlexibleLabels_ok {w : World} {s : Sl} {p : WPr} (h : RWk w s p) :
    Calls Try.prog F.s_FlexibleLabels #[.agg #[.int .i64 p.labels, s.v]] w (Ret [.at .sl, .at .bool] fun (r : Sl) (ok : Bool) w' => Ext w w' ∧ (ok = true ↔ WGood p) ∧ (ok = true → R w' r (flexL (arcE p.arcs) p.labels.toNat))) := by
  refine C_s_FlexibleLabels ?_
  unfold V_s_FlexibleLabels
  refine NEW_intro fun pp w1 hp1 hs1 hE1 hb1 => LD_is hb1 ?_
  refine call (waGood_ok (h.ext hE1)) ?_
  rintro b w2 ⟨hb, hE2⟩
  have hE12 := hE1.trans hE2
  refine cond_not (fun hf => ⟨hE12, ⟨(fun hh => by cases hh), (fun hh => by rw [hb.2 hh] at hf; cases hf)⟩, fun hh => by cases hh⟩) (fun ht => LD_is (hb1.ext hE2) ?_)
  refine call (waFlexible_ok (h.ext hE12) (hb.1 ht)) ?_
  rintro r w3 ⟨hE3, hR3⟩
  exact ⟨hE12.trans hE3, ⟨fun _ => hb.1 ht, fun _ => rfl⟩, fun _ => hR3.any⟩

theorem sFlexibilityOf_ok {w : World} {s : Sl} {p : WPr} {a : Nat} {y : Int} (h : RWk w s p) (hg : WGood p) (ha : a < p.labels.toNat) (hF : Flex (arcE p.arcs) a) (hy : FlexIs (arcE p.arcs) a y) :
    Calls Try.prog F.s_FlexibilityOf #[.agg #[.int .i64 p.labels, s.v], .int .i64 a] w (Ret [.at (.int .i64), .at .bool] fun (x : Int) (ok : Bool) w' => x = y ∧ ok = true ∧ Ext w w') := by
  refine C_s_FlexibilityOf ?_
  unfold V_s_FlexibilityOf
  refine NEW_intro fun pp w1 hp1 hs1 hE1 hb1 => LD_is hb1 ?_
  refine call (waGood_ok (h.ext hE1)) ?_
  rintro b w2 ⟨hb, hE2⟩
  have hE12 := hE1.trans hE2
  refine cond_not (fun hf => by rw [hb.2 hg] at hf; cases hf) (fun ht => LD_is (hb1.ext hE2) ?_)
  refine call (waFlexible_ok (h.ext hE12) hg) ?_
  rintro r w3 ⟨hE3, hR3⟩
  have hE13 := hE2.trans hE3
  have hE03 := hE12.trans hE3
  refine call (l1Has_ok hR3.any _) ?_
  rintro _ _ ⟨rfl, rfl⟩
  have hin : (flexL (arcE p.arcs) p.labels.toNat).contains (a : Int) = true := List.contains_iff_mem.2 (flexL_mem.2 ⟨a, rfl, ha, hF⟩)
  refine cond_not (fun hf => absurd (hin.symm.trans hf) (by simp)) (fun _ => LD_is (hb1.ext hE13) ?_)
  refine call (waFlexibility_ok (h.ext hE03) hg ha hF) ?_
  rintro x w6 ⟨hE6, hx, _⟩
  exact ⟨hx.unique hy, rfl, hE03.trans hE6⟩

theorem cyLevels_ok {w : World} {s : Sl} {p : WPr} (h : RWk w s p) :
    Calls Try.prog F.s_cyLevels #[.agg #[.int .i64 p.labels, s.v]] w (Ret [.at (.int .i64), .at (.int .i64), .at .bool] fun (_ : Int) (x : Int) (ok : Bool) w' => Ext w w' ∧ LvAns p x ok) := by
  refine C_s_cyLevels ?_
  unfold V_s_cyLevels
  refine NEW_intro fun pp w1 hp1 hs1 hE1 hb1 => LD_is hb1 ?_
  refine call (sFlexibleLabels_ok (h.ext hE1)) ?_
  rintro r b w2 ⟨hE2, hb, hR2⟩
  have hE12 := hE1.trans hE2
  have no : ∀ {w' : World}, Ext w w' → ¬ (WGood p ∧ flexL (arcE p.arcs) p.labels.toNat ≠ []) → Ext w w' ∧ LvAns p 0 false := fun hE hn => ⟨hE, ⟨(fun hh => by cases hh), (fun hh => absurd hh hn)⟩, (fun hh => by cases hh), fun _ => rfl⟩
  refine cond_not (fun hf => no hE12 fun hh => by rw [hb.2 hh.1] at hf; cases hf) (fun ht => ?_)
  have hg := hb.1 ht
  have hl := hg.lab
  have hR := hR2 ht
  rw [hR.len]
  refine cond_eq (fun h0 => no hE12 fun hh => hh.2 (List.length_eq_zero_iff.1 (by omega))) (fun hne => ?_)
  have h0 : 0 < (flexL (arcE p.arcs) p.labels.toNat).length := by omega
  unfold V_s_cyLevels_k1
  refine LD_is (hb1.ext hE2) ?_
  obtain ⟨a, ha, han, hF, hhd⟩ := flex_head h0
  refine hR.ixI (i := 0) h0 fun q _ hc => LD_int hc ?_
  rw [ha]
  have hrel : ∀ x y, arcE p.arcs x y → y < p.labels.toNat := fun x y hxy => (hg.rel hxy).2
  -- the number is there
  have hex : ∃ y, FlexIs (arcE p.arcs) a y ∧ y ≤ 1000 := by
    have hall := flex_all hrel hF
    have hnsq : p.labels.toNat * p.labels.toNat ≤ 144 := Nat.mul_le_mul (by omega : p.labels.toNat ≤ 12) (by omega : p.labels.toNat ≤ 12)
    have go : ∀ d k, k = d → k ≤ 144 → (∀ j, k < j → Wk (arcE p.arcs) j a a) → ∃ y, FlexIs (arcE p.arcs) a y ∧ y ≤ 1000 := by
      intro d
      induction d with
      | zero => intro k hk _ hj; exact ⟨(k : Int) + 1, ⟨k, rfl, .inl hk, hj⟩, by omega⟩
      | succ d ih =>
        intro k hk hk2 hj
        by_cases hw : Wk (arcE p.arcs) k a a
        · refine ih (k - 1) (by omega) (by omega) fun j hj2 => ?_
          by_cases he : j = k
          · subst he; exact hw
          · exact hj j (by omega)
        · exact ⟨(k : Int) + 1, ⟨k, rfl, .inr hw, hj⟩, by omega⟩
    exact go 144 144 rfl (Nat.le_refl _) fun j hj => hall j (by omega)
  obtain ⟨y, hFl, hy⟩ := hex
  refine QCALL_ib y true (fun w' hE' => sFlexibilityOf_ok ((h.ext hE12).ext hE') hg han hF hFl) ?_
  intro w4 hE4
  have hE04 := hE12.trans hE4
  refine ⟨fun (x : Int) w' => w4 = w' ∧ ∃ l : Nat, x = l ∧ ∀ j, j < l → ((2 ^ j : Nat) : Int) < y, fun x _ => 11 - x.toNat, ⟨rfl, 0, rfl, fun j hj => by omega⟩, ?_⟩
  rintro _ _ ⟨rfl, l, rfl, hj⟩
  intros
  have hl10 := lvl_few hy hj
  rw [wrap_u64 (by omega) (by omega)]
  refine ⟨by omega, ?_⟩
  rw [shl_one (by omega)]
  refine cond_dec (fun hlt => ?_) (fun hge => ?_)
  · have hl11 := lvl_few (l := l + 1) hy fun j hj2 => by
      by_cases he : j = l
      · subst he; exact hlt
      · exact hj j (by omega)
    rw [wrap_of (by omega) (by omega)]
    refine ⟨⟨rfl, l + 1, by omega, fun j hj2 => ?_⟩, by simp only []; omega⟩
    by_cases he : j = l
    · subst he; exact hlt
    · exact hj j (by omega)
  · refine (hR.ext hE4).ixI (i := 0) h0 fun q _ hc => LD_int hc ?_
    exact ⟨hE04, ⟨fun _ => ⟨hg, fun hn => by rw [hn] at h0; simp at h0⟩, fun _ => rfl⟩, fun _ => ⟨a, y, l, hhd, hFl, ⟨by omega, hj⟩, rfl⟩, fun hh => by cases hh⟩

theorem sLevelsFor_ok {w : World} {s : Sl} {p : WPr} (h : RWk w s p) :
    Calls Try.prog F.s_LevelsFor #[.agg #[.int .i64 p.labels, s.v]] w (Ret [.at (.int .i64), .at .bool] fun (x : Int) (ok : Bool) w' => Ext w w' ∧ LvAns p x ok) := by
  refine C_s_LevelsFor ?_
  unfold V_s_LevelsFor
  refine NEW_intro fun pp w1 hp1 hs1 hE1 hb1 => LD_is hb1 ?_
  refine call (cyLevels_ok (h.ext hE1)) ?_
  rintro _ x ok w2 ⟨hE2, hA⟩
  exact ⟨hE1.trans hE2, hA⟩

end Go.Proofs.Ytnhidomgpbohiaa
end

section
/- The walk of the law FnExactLevelsFor. -/
namespace Go.Proofs.Ytnhidomgpbohiaa
open Go.GX Go.RowKit
set_option maxRecDepth 100000
set_option maxHeartbeats 800000

theorem fnExactLevelsFor_ok {w : World} {s : Sl} {q : WPr} (h : RWk w s q) :
    Calls Try.prog F.l_FnExactLevelsFor #[.agg #[.int .i64 q.labels, s.v]] w (Ret [.at .bool] fun (x : Bool) w' => x = true ∧ Ext w w') := by
  refine C_l_FnExactLevelsFor ?_
  unfold V_l_FnExactLevelsFor
  refine NEW_intro fun p0 u0 hp0 hs0 hA0 hb0 => ?_
  have hE := hA0
  replace h := h.ext hA0
  refine LD_is hb0 ?_
  refine call (szWalk_ok h 1048576 (by omega) (by omega)) ?_
  rintro z0 x0 ⟨hz0, hB0⟩
  replace hE := hE.ext hB0
  replace h := h.ext hB0
  replace hb0 := hb0.ext hB0
  refine cond_dec (fun _ => ⟨rfl, hE⟩) (fun hzl0 => ?_)
  have hS := hz0 (by omega)
  refine LD_is hb0 ?_
  refine call (toWalk_ok h hS) ?_
  rintro _ z w1 ⟨rfl, hE1, hR1⟩
  replace hE := hE.ext hE1
  replace h := h.ext hE1
  replace hb0 := hb0.ext hE1
  refine call (sLevelsFor_ok hR1) ?_
  rintro v1 ok1 w2 ⟨hE2, hA1⟩
  replace hE := hE.ext hE2
  replace h := h.ext hE2
  replace hb0 := hb0.ext hE2
  refine LD_is hb0 ?_
  refine call (toWalk_ok h hS) ?_
  rintro _ z2 w3 ⟨rfl, hE3, hR3⟩
  replace hE := hE.ext hE3
  replace h := h.ext hE3
  replace hb0 := hb0.ext hE3
  refine NEW_ST (one2 _ _) rfl fun p1 w5 hp1 hE5 hb1 => ?_
  replace hE := hE.ext hE5
  replace h := h.ext hE5
  replace hb0 := hb0.ext hE5
  replace hR3 := hR3.ext hE5
  refine LD_is hb1 ?_
  refine call (LevelsFor_ok hR3) ?_
  rintro v2 ok2 w6 ⟨hE6, hA2⟩
  replace hE := hE.ext hE6
  replace h := h.ext hE6
  replace hb0 := hb0.ext hE6
  replace hR3 := hR3.ext hE6
  replace hb1 := hb1.ext hE6
  obtain ⟨rfl, rfl⟩ := LvAns.eq hA1 hA2
  refine cond_f (by simp) ?_
  refine cond_f (by simp) ?_
  intro w7 hE7 _
  replace hE := hE.ext hE7
  replace h := h.ext hE7
  replace hb0 := hb0.ext hE7
  replace hR3 := hR3.ext hE7
  replace hb1 := hb1.ext hE7
  refine LD_is hb1 (LD_is hb0 ⟨Ext.refl _, ?_⟩)
  refine call (toWalk_ok h hS) ?_
  rintro _ z4 w8 ⟨rfl, hE8, hR8⟩
  replace hE := hE.ext hE8
  replace h := h.ext hE8
  replace hb0 := hb0.ext hE8
  replace hR3 := hR3.ext hE8
  replace hb1 := hb1.ext hE8
  refine ⟨hE8, call (eqWalk_ok hR3 hR8) ?_⟩
  rintro _ w9 ⟨rfl, hE9⟩
  exact ⟨hE8.trans hE9, cond_f (by simp) ⟨rfl, hE.trans hE9⟩⟩

end Go.Proofs.Ytnhidomgpbohiaa
end

section
/- Facts of this seat's program that every claim's last step asks for, each computed once (together they need more memory than a text may use). -/
namespace Go.Proofs.Ytnhidomgpbohiaa


theorem door_enters : Try.pinned.checked.prog.mayEnter = true := by kernel_rfl

theorem door_lifts : Try.pinned.checked.prog.liftsFinal = false := by kernel_rfl

theorem door_heard : Try.pinned.checked.prog.stopsHeard = true := by kernel_rfl

theorem door_laid : laidOutB Try.pinned.checked.prog = true := by kernel_rfl

theorem door_maps : mapsRowed Try.pinned.checked.prog = true := by kernel_rfl

end Go.Proofs.Ytnhidomgpbohiaa
end
