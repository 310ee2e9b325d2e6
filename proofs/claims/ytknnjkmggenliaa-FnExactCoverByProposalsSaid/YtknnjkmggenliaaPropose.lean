/- Matchings by proposals, both sides. -/
import Derived.Test.YtknnjkmggenliaaTake
import Derived.Test.YtknnjkmggenliaaReduce
namespace Go.Proofs.Ytknnjkmggenliaa
open Go.GX Go.RowKit
set_option maxRecDepth 100000

/-! ### What the rounds compute -/

/-- The port by which a node accepts a proposal of this round. -/
def accOf (E : Ends) (sides m : List Int) (r w : Nat) : Option Nat :=
  if m.getD w 0 < 0 then (rowOf E w).findIdx? fun e => e.2 == (r : Int) && (decide (m.getD e.1.toNat 0 < 0) && sides.getD e.1.toNat 0 == 0) else none

def accE (E : Ends) (w j : Nat) : Edge := ((w : Int), (j : Int), ((port E w j).getD (0, 0)).1, ((port E w j).getD (0, 0)).2)
def stepW (E : Ends) (sides m0 : List Int) (r : Nat) (M : List Int) (w : Nat) : List Int := match accOf E sides m0 r w with
  | some j => putE M (accE E w j)
  | none => M
def roundTo (E : Ends) (sides m0 : List Int) (r : Nat) : Nat → List Int
  | 0 => m0
  | w + 1 => stepW E sides m0 r (roundTo E sides m0 r w) w
def propTo (E : Ends) (sides : List Int) : Nat → List Int
  | 0 => List.replicate E.length (-1)
  | r + 1 => roundTo E sides (propTo E sides r) r E.length
def roundsTo (E : Ends) (sides : List Int) : Nat → Int
  | 0 => 0
  | i + 1 => if sides.getD i 0 = 0 then most2 (roundsTo E sides i) ((rowOf E i).length : Int) else roundsTo E sides i

structure Bip (n : Net) (sides : List Int) : Prop where
  good : Good n
  len : sides.length = n.ends.length
  all : AllIn sides 0 1
  apart : ¬ Clash n.ends sides

theorem Bip.side {n : Net} {sides : List Int} (h : Bip n sides) {v : Nat} (hv : v < n.ends.length) : sides.getD v 0 = 0 ∨ sides.getD v 0 = 1 := by
  have hv' : v < sides.length := by rw [h.len]; exact hv
  have := h.all _ (List.getElem_mem hv')
  simp [hv']
  omega

theorem Bip.ne {n : Net} {sides : List Int} (h : Bip n sides) {v i u y : Nat} (hp : port n.ends v i = some ((u : Int), (y : Int))) : sides.getD v 0 ≠ sides.getD u 0 := by
  intro he
  obtain ⟨hv, hi, _⟩ := port_some hp
  exact h.apart ((clash_iff h.good sides).2 ((exists_edge h.good (P := fun a b => sides.getD a 0 = sides.getD b 0) (fun a b h => h.symm)).2 ⟨v, u, hv, (mem_adj hv).2 ⟨i, y, hp⟩, he⟩))

theorem rounds_le {n : Net} (hg : Good n) (sides : List Int) : ∀ i, i ≤ n.ends.length → 0 ≤ roundsTo n.ends sides i ∧ roundsTo n.ends sides i ≤ 6
  | 0, _ => by simp [roundsTo]
  | i + 1, hi => by
    have ih := rounds_le hg sides i (by omega)
    have hd := hg.deg (v := i) (by omega)
    unfold roundsTo
    split
    · rw [rowOf_get (by omega)]
      unfold most2
      split <;> omega
    · exact ih

theorem accOf_some {n : Net} {sides m : List Int} (hg : Good n) {r w j : Nat} (hw : w < n.ends.length) (h : accOf n.ends sides m r w = some j) :
    ∃ u : Nat, port n.ends w j = some ((u : Int), (r : Int)) ∧ u < n.ends.length ∧ m.getD u 0 < 0 ∧ sides.getD u 0 = 0 ∧ m.getD w 0 < 0 ∧ accE n.ends w j = ((w : Int), (j : Int), (u : Int), (r : Int)) ∧ j < 6 ∧
      ∀ j' < j, ∀ x : Nat, port n.ends w j' = some ((x : Int), (r : Int)) → ¬ (m.getD x 0 < 0 ∧ sides.getD x 0 = 0) := by
  unfold accOf at h
  split at h
  · rename_i hm
    rw [rowOf_get hw] at h
    obtain ⟨hj, hp, hb⟩ := List.findIdx?_eq_some_iff_getElem.1 h
    obtain ⟨u, y, hxy, hu, _⟩ := hg.far hw hj
    rw [hxy] at hp
    simp only [Bool.and_eq_true, beq_iff_eq, decide_eq_true_eq, Int.toNat_natCast] at hp
    have hy : (y : Int) = r := hp.1
    have hport : port n.ends w j = some ((u : Int), (r : Int)) := by rw [port_get hw hj, hxy, hy]
    have := hg.deg hw
    refine ⟨u, hport, hu, hp.2.1, hp.2.2, hm, by simp [accE, hport], by omega, fun j' hj' x hx hc => ?_⟩
    obtain ⟨_, hj2, hee⟩ := port_some hx
    have h2 := hb j' hj'
    rw [hee] at h2
    refine h2 ?_
    simp only [Int.toNat_natCast, hc.2, beq_self_eq_true, Bool.and_true, Bool.true_and, decide_eq_true_eq]
    exact hc.1
  · cases h

theorem accOf_none {n : Net} {sides m : List Int} {r w : Nat} (hw : w < n.ends.length) (h : accOf n.ends sides m r w = none) :
    ¬ m.getD w 0 < 0 ∨ ∀ j x : Nat, port n.ends w j = some ((x : Int), (r : Int)) → ¬ (m.getD x 0 < 0 ∧ sides.getD x 0 = 0) := by
  unfold accOf at h
  split at h
  · right
    rw [rowOf_get hw] at h
    intro j x hx hc
    obtain ⟨_, hj, hee⟩ := port_some hx
    have := List.findIdx?_eq_none_iff.1 h n.ends[w][j] (List.getElem_mem hj)
    rw [hee] at this
    simp only [Int.toNat_natCast, hc.2, beq_self_eq_true, Bool.and_true, Bool.true_and, decide_eq_false_iff_not] at this
    exact this hc.1
  · left; assumption

/-- The port of the proposal is the least that fits. -/
theorem accOf_eq {n : Net} {sides m : List Int} (hg : Good n) {r w j u : Nat} (hw : w < n.ends.length) (hm : m.getD w 0 < 0) (hp : port n.ends w j = some ((u : Int), (r : Int))) (hu : m.getD u 0 < 0 ∧ sides.getD u 0 = 0)
    (hb : ∀ j' < j, ∀ x : Nat, port n.ends w j' = some ((x : Int), (r : Int)) → ¬ (m.getD x 0 < 0 ∧ sides.getD x 0 = 0)) : accOf n.ends sides m r w = some j := by
  cases h : accOf n.ends sides m r w with
  | none =>
    rcases accOf_none hw h with h1 | h1
    · exact absurd hm h1
    · exact absurd hu (h1 j u hp)
  | some i =>
    obtain ⟨x, hx, _, h1, h2, _, _, _, h3⟩ := accOf_some hg hw h
    rcases Nat.lt_trichotomy i j with h4 | h4 | h4
    · exact absurd ⟨h1, h2⟩ (hb i h4 x hx)
    · rw [h4]
    · exact absurd hu (h3 j h4 u hp)

theorem roundTo_len (E : Ends) (sides m0 : List Int) (r : Nat) : ∀ w, (roundTo E sides m0 r w).length = m0.length
  | 0 => rfl
  | w + 1 => by
    unfold roundTo stepW
    split
    · rw [putE_len, roundTo_len E sides m0 r w]
    · exact roundTo_len E sides m0 r w

theorem propTo_len (E : Ends) (sides : List Int) : ∀ r, (propTo E sides r).length = E.length
  | 0 => by simp [propTo]
  | r + 1 => by unfold propTo; rw [roundTo_len, propTo_len E sides r]

def Vals (m : List Int) : Prop := ∀ x ∈ m, -1 ≤ x ∧ x ≤ 100

theorem Vals.I64 {m : List Int} (h : Vals m) : ∀ x ∈ m, GX.I64 x := fun x hx => by have := h x hx; unfold GX.I64; omega

theorem roundTo_vals {n : Net} {sides m0 : List Int} (hg : Good n) (hv : Vals m0) {r : Nat} (hr : r ≤ 100) : ∀ w, w ≤ n.ends.length → Vals (roundTo n.ends sides m0 r w)
  | 0, _ => hv
  | w + 1, hw => by
    have ih := roundTo_vals (sides := sides) hg hv hr w (by omega)
    unfold roundTo stepW
    split
    · rename_i j hj
      obtain ⟨u, _, _, _, _, _, he, hj6, _⟩ := accOf_some hg (by omega) hj
      rw [he]
      exact putE_all ih (by simp only; omega) (by simp only; omega)
    · exact ih

theorem propTo_vals {n : Net} {sides : List Int} (hg : Good n) : ∀ r, r ≤ 100 → Vals (propTo n.ends sides r)
  | 0, _ => fun x hx => by rw [List.eq_of_mem_replicate hx]; omega
  | r + 1, hr => roundTo_vals hg (propTo_vals hg r (by omega)) (by omega) _ (Nat.le_refl _)

/-- A node on the second side that has not had its turn is as it was. -/
theorem roundTo_get {n : Net} {sides m0 : List Int} (hg : Good n) {r : Nat} : ∀ w, w ≤ n.ends.length → ∀ x, w ≤ x → sides.getD x 0 ≠ 0 → (roundTo n.ends sides m0 r w).getD x 0 = m0.getD x 0
  | 0, _, _, _, _ => rfl
  | w + 1, hw, x, hx, hs => by
    have ih := roundTo_get (sides := sides) (m0 := m0) hg (r := r) w (by omega) x (by omega) hs
    unfold roundTo stepW
    split
    · rename_i j hj
      obtain ⟨u, _, _, _, hsu, _, he, _, _⟩ := accOf_some hg (by omega) hj
      rw [he]
      unfold putE
      simp only [Int.toNat_natCast, List.getD_eq_getElem?_getD]
      have hux : u ≠ x := fun h => hs (h ▸ hsu)
      rw [List.getElem?_set_ne hux, List.getElem?_set_ne (by omega)]
      simpa [List.getD_eq_getElem?_getD] using ih
    · exact ih

/-! ### The program's side -/

/-- What has come to node w from nodes below v. -/
def Came (n : Net) (sides m : List Int) (r v w j : Nat) : Prop := ∃ u : Nat, port n.ends w j = some ((u : Int), (r : Int)) ∧ u < v ∧ m.getD u 0 < 0 ∧ sides.getD u 0 = 0 ∧ m.getD w 0 < 0
def BestOk (n : Net) (sides m : List Int) (r v w : Nat) (x : Int) : Prop := (x = -1 ∧ ∀ j, ¬ Came n sides m r v w j) ∨ ∃ j : Nat, x = j ∧ j < 6 ∧ Came n sides m r v w j ∧ ∀ j' < j, ¬ Came n sides m r v w j'

theorem Came.mono {n : Net} {sides m : List Int} {r v w j : Nat} (h : Came n sides m r v w j) : Came n sides m r (v + 1) w j := by
  obtain ⟨u, h1, h2, h3⟩ := h
  exact ⟨u, h1, by omega, h3⟩

theorem best_same {n : Net} {sides m : List Int} {r v w : Nat} {x : Int} (hno : ∀ j, port n.ends w j = some ((v : Int), (r : Int)) → ¬ (m.getD v 0 < 0 ∧ sides.getD v 0 = 0 ∧ m.getD w 0 < 0)) (h : BestOk n sides m r v w x) : BestOk n sides m r (v + 1) w x := by
  have hback : ∀ j, Came n sides m r (v + 1) w j → Came n sides m r v w j := by
    rintro j ⟨u, h1, h2, h3, h4, h5⟩
    by_cases huv : u = v
    · subst huv; exact absurd ⟨h3, h4, h5⟩ (hno j h1)
    · exact ⟨u, h1, by omega, h3, h4, h5⟩
  rcases h with ⟨rfl, h1⟩ | ⟨j, rfl, h6, h1, h2⟩
  · exact .inl ⟨rfl, fun j hj => h1 j (hback j hj)⟩
  · exact .inr ⟨j, rfl, h6, h1.mono, fun j' hj' hc => h2 j' hj' (hback j' hc)⟩

theorem port_back {n : Net} (hg : Good n) {v i w j : Nat} (h : port n.ends v i = some ((w : Int), (j : Int))) : port n.ends w j = some ((v : Int), (i : Int)) := by
  obtain ⟨hv, hi, he⟩ := port_some h
  obtain ⟨x, y, hxy, _, hb⟩ := hg.far hv hi
  rw [he] at hxy
  obtain ⟨h1, h2⟩ := Prod.mk.inj hxy
  have e1 : w = x := by omega
  have e2 : j = y := by omega
  subst e1; subst e2
  exact hb

theorem best_acc {n : Net} {sides m : List Int} (hg : Good n) {r w : Nat} (hw : w < n.ends.length) {x : Int} (h : BestOk n sides m r n.ends.length w x) : x = (match accOf n.ends sides m r w with | some j => (j : Int) | none => -1) := by
  rcases h with ⟨rfl, h1⟩ | ⟨j, rfl, h6, ⟨u, hp, hu, hm, hs, hw'⟩, h2⟩
  · cases ha : accOf n.ends sides m r w with
    | none => rfl
    | some j =>
      obtain ⟨u, hp, hu, h3, h4, h5, _⟩ := accOf_some hg hw ha
      exact absurd ⟨u, hp, hu, h3, h4, h5⟩ (h1 j)
  · rw [accOf_eq hg hw hw' hp ⟨hm, hs⟩ (fun j' hj' x hx hc => h2 j' hj' ⟨x, hx, ?_, hc.1, hc.2, hw'⟩)]
    obtain ⟨_, hj2, hee⟩ := port_some hx
    obtain ⟨x', _, hxy, hx', _⟩ := hg.far hw hj2
    rw [hee] at hxy
    have := congrArg Prod.fst hxy
    simp at this
    omega

theorem proposalMatching_ok {w : World} {a b c s : Sl} {n : Net} {sides : List Int} (h : RNet w a b c n) (hs : R w s sides) (hB : Bip n sides) :
    Calls Try.prog F.i_proposalMatching #[.agg #[a.v, b.v, c.v], s.v] w (Ret [.at .sl, .at (.int .i64)] fun (r : Sl) (x : Int) w' => Ext w w' ∧ OwnL w' w.heap.size T.t_int r (propTo n.ends sides (roundsTo n.ends sides n.ends.length).toNat) ∧ x = roundsTo n.ends sides n.ends.length) := by
  refine C_i_proposalMatching ?_
  unfold V_i_proposalMatching
  have hg := hB.good
  have h40 := hg.size.2
  have hlen := hB.len
  refine NEW_intro fun p w1 hp hs1 hE hb1 => LD_box3 hb1 ?_
  replace h := h.ext hE
  replace hs := hs.ext hE
  refine call (noMatching_ok h (by omega)) ?_
  rintro m w2 ⟨hE2, hO2⟩
  refine LD_bs0 (hb1.ext hE2) ?_
  rw [h.1.len]
  refine ⟨IN2 n.ends.length fun i x w' => w2 = w' ∧ x = roundsTo n.ends sides i, MN2 n.ends.length, IN2_zero ⟨rfl, rfl⟩, ?_⟩
  rintro _ _ w3 ⟨i, rfl, hi, rfl, rfl⟩
  intros
  refine cond_dec (fun hlt => ?_) (fun hge => ?_)
  · have hi' : i < n.ends.length := by omega
    have his : i < sides.length := by omega
    have hgd : sides.getD i 0 = sides[i] := by simp [his]
    refine (h.ext hE2).1.ixL hi' fun q s1 hR hc => LD_sl hc ?_
    refine (hs.ext hE2).ixI his fun q _ hc => LD_int hc ?_
    rw [hR.len]
    refine cond_eq (fun h0 => RUN_max (IN2_next (by omega) hi' ⟨rfl, ?_⟩)) (fun h0 => IN2_next (by omega) hi' ⟨rfl, ?_⟩)
    · conv => rhs; unfold roundsTo
      rw [hgd, if_pos h0, rowOf_get hi']
      unfold most2
      split <;> split <;> omega
    · conv => rhs; unfold roundsTo
      rw [hgd, if_neg h0]
  have : i = n.ends.length := by omega
  subst this
  have hrl := rounds_le hg sides n.ends.length (Nat.le_refl _)
  obtain ⟨RN, hRN⟩ := Int.eq_ofNat_of_zero_le hrl.1
  rw [hRN] at hrl ⊢
  rw [Int.toNat_natCast]
  refine ⟨IN RN fun r w' => Ext w1 w' ∧ OwnL w' w1.heap.size T.t_int m (propTo n.ends sides r), MN RN, IN_zero ⟨hE2, hO2⟩, ?_⟩
  rintro _ w5 ⟨r, rfl, hr, hE5, hO5⟩
  intros
  refine cond_dec (fun hlt => LD_box3 (hb1.ext hE5) ?_) (fun hge => ?_)
  rotate_left
  · have : r = RN := by omega
    subst this
    exact ⟨hE.trans hE5, hO5.low hE.size_le, rfl⟩
  have hr' : r < RN := by omega
  have hM := propTo_vals (sides := sides) hg r (by omega)
  have hMl := propTo_len n.ends sides r
  have hdef : propTo n.ends sides (r + 1) = roundTo n.ends sides (propTo n.ends sides r) r n.ends.length := rfl
  generalize propTo n.ends sides r = M at *
  have hmb := hO5.blk
  refine call (noMatching_ok (h.ext hE5) (by omega)) ?_
  rintro bs w6 ⟨hE6, hO6⟩
  refine LD_bs0 (hb1.ext (hE5.trans hE6)) ?_
  rw [h.1.len]
  have hRM := (hO5.rep hM.I64).any
  refine ⟨IN n.ends.length fun v w' => Ext w5 w' ∧ ∃ B : List Int, OwnL w' w5.heap.size T.t_int bs B ∧ B.length = n.ends.length ∧ ∀ x (hx : x < B.length), BestOk n sides M r v x B[x], MN n.ends.length, IN_zero ⟨hE6, _, hO6, by simp, fun x hx => .inl ⟨by simp, by rintro j ⟨u, _, hu, _⟩; omega⟩⟩, ?_⟩
  rintro _ w7 ⟨v, rfl, hv, hE7, B, hOB, hBl, hbest⟩
  intros
  have hBI : ∀ x ∈ B, I64 x := fun x hx => by
    obtain ⟨i, hi, rfl⟩ := List.mem_iff_getElem.1 hx
    rcases hbest i hi with ⟨h1, _⟩ | ⟨j, h1, h6, _⟩ <;> (rw [h1]; unfold I64; omega)
  refine cond_dec (fun hlt2 => ?_) (fun hge2 => ?_)
  · have hv' : v < n.ends.length := by omega
    have hvs : v < sides.length := by omega
    have hvM : v < M.length := by omega
    have hgs : sides.getD v 0 = sides[v] := by simp [hvs]
    have hgM : M.getD v 0 = M[v] := by simp [hvM]
    have hE17 := hE5.trans hE7
    have hskip : (∀ x j, port n.ends x j = some ((v : Int), (r : Int)) → ¬ (M.getD v 0 < 0 ∧ sides.getD v 0 = 0 ∧ M.getD x 0 < 0)) → ∀ w', Ext w7 w' → V_i_proposalMatching_k9 (IN n.ends.length fun v w' => Ext w5 w' ∧ ∃ B : List Int, OwnL w' w5.heap.size T.t_int bs B ∧ B.length = n.ends.length ∧ ∀ x (hx : x < B.length), BestOk n sides M r v x B[x]) (MN n.ends.length) (v : Int) w7 w' := fun hno w' hE' => by
      unfold V_i_proposalMatching_k9
      exact IN_next (by omega) hv' ⟨hE7.trans hE', B, hOB.ext hE', hBl, fun x hx => best_same (hno x) (hbest x hx)⟩
    refine (h.ext hE17).1.ixL hv' fun q s1 hR hc => LD_sl hc ?_
    refine (hs.ext hE17).ixI hvs fun q _ hc => LD_int hc ?_
    refine cond_ne (fun h0 => hskip (fun x j _ hc => h0 (by omega)) _ (Ext.refl _)) (fun h0 => ?_)
    refine (hRM.ext hE7).ixI hvM fun q _ hc => LD_int hc ?_
    refine cond_dec (fun h1 => hskip (fun x j _ hc => by omega) _ (Ext.refl _)) (fun h1 => ?_)
    rw [hR.len]
    refine cond_dec (fun h2 => hskip (fun x j hp hc => ?_) _ (Ext.refl _)) (fun h2 => ?_)
    · have := port_back hg hp
      obtain ⟨_, h3, _⟩ := port_some this
      omega
    have hrd : r < n.ends[v].length := by omega
    obtain ⟨x0, j0, hxy, hx0, hback⟩ := hg.far hv' hrd
    have hport : port n.ends v r = some ((x0 : Int), (j0 : Int)) := by rw [port_get hv' hrd, hxy]
    obtain ⟨_, hj0, _⟩ := port_some hback
    have hj6 := hg.deg hx0
    have honly : ∀ x j, port n.ends x j = some ((v : Int), (r : Int)) → x = x0 ∧ j = j0 := fun x j hp => by
      have h3 := port_back hg hp
      rw [hport] at h3
      have h4 := Option.some.inj h3
      have e1 := congrArg Prod.fst h4
      have e2 := congrArg Prod.snd h4
      simp at e1 e2
      omega
    unfold V_i_proposalMatching_k10
    refine hR.ixE hrd fun q _ _ hc0 hc1 => LD_int2 hc0 hc1 ?_
    rw [hxy]
    refine NEW_ST (one2 _ _) rfl fun pe w10 hpe hE10 hbe => LD_bi0 hbe ?_
    have hx0M : x0 < M.length := by omega
    have hgx : M.getD x0 0 = M[x0] := by simp [hx0M]
    refine ((hRM.ext hE7).ext hE10).ixI hx0M fun q _ hc => LD_int hc ?_
    refine cond_dec (fun h3 => ?_) (fun h3 w13 hE13 => hskip (fun x j hp hc => ?_) _ (hE10.trans hE13))
    rotate_left
    · obtain ⟨rfl, _⟩ := honly x j hp
      omega
    have hCame : Came n sides M r (v + 1) x0 j0 := ⟨v, hback, by omega, by omega, by omega, by omega⟩
    have hx0B : x0 < B.length := by omega
    have hput : (∀ j' < j0, ¬ Came n sides M r v x0 j') → ∀ w', Ext w7 w' → ∀ q, Plc bs x0 (Rep.sz Int) q → GX.ST q 0 [.int .i64 (j0 : Int)] w' fun w2 => V_i_proposalMatching_k9 (IN n.ends.length fun v w' => Ext w5 w' ∧ ∃ B : List Int, OwnL w' w5.heap.size T.t_int bs B ∧ B.length = n.ends.length ∧ ∀ x (hx : x < B.length), BestOk n sides M r v x B[x]) (MN n.ends.length) (v : Int) w7 w2 := fun hmin w' hE' q hq => by
      have hO' := hOB.ext hE'
      refine ST_own hO' hx0B hq (j0 : Int) rfl fun w2 hO2 hs2 => ?_
      unfold V_i_proposalMatching_k9
      refine IN_next (by omega) hv' ⟨hs2.ext0 (hE7.trans hE') (fun k hk => (hO'.blk k hk).1), B.set x0 (j0 : Int), hO2, by simpa using hBl, fun x hx => ?_⟩
      by_cases hxx : x = x0
      · subst hxx
        rw [List.getElem_set_self]
        refine .inr ⟨j0, rfl, by omega, hCame, fun j' hj' hc => ?_⟩
        obtain ⟨u, h4, h5, h6⟩ := hc
        by_cases huv : u = v
        · subst huv
          have := (honly _ _ h4).2
          omega
        · exact hmin j' hj' ⟨u, h4, by omega, h6⟩
      · rw [List.getElem_set_ne (Ne.symm hxx)]
        exact best_same (fun j hp => absurd (honly x j hp).1 hxx) (hbest x (by simpa using hx))
    have hRB := (hOB.rep hBI).any
    refine LD_bi0 hbe ?_
    refine (hRB.ext hE10).ixI hx0B fun q _ hc => LD_int hc ?_
    refine cond_dec (fun h4 w11 hE11 => ?_) (fun h4 => ?_)
    · refine LD_bi0 (hbe.ext hE11) (LD_bi1 (hbe.ext hE11) ?_)
      refine IX_own ((hOB.ext hE10).ext hE11) hx0B rfl fun q hq => hput (fun j' _ => ?_) _ (hE10.trans hE11) q hq
      rcases hbest x0 hx0B with ⟨_, h5⟩ | ⟨j, h5, _⟩
      · exact h5 j'
      · omega
    · refine LD_bi1 hbe (LD_bi0 hbe ?_)
      refine (hRB.ext hE10).ixI hx0B fun q _ hc => LD_int hc ?_
      intro w12 hE12
      refine cond_dec (fun h5 => ?_) (fun h5 => ?_)
      · refine LD_bi0 (hbe.ext hE12) (LD_bi1 (hbe.ext hE12) ?_)
        refine IX_own ((hOB.ext hE10).ext hE12) hx0B rfl fun q hq => hput (fun j' hj' => ?_) _ (hE10.trans hE12) q hq
        rcases hbest x0 hx0B with ⟨h6, _⟩ | ⟨j, h6, _, _, h7⟩
        · omega
        · exact h7 j' (by omega)
      · unfold V_i_proposalMatching_k9
        refine IN_next (by omega) hv' ⟨hE7.trans (hE10.trans hE12), B, (hOB.ext hE10).ext hE12, hBl, fun x hx => ?_⟩
        by_cases hxx : x = x0
        · subst hxx
          rcases hbest x hx with ⟨h6, _⟩ | ⟨j, h6, h66, h7, h8⟩
          · omega
          · rw [h6]
            refine .inr ⟨j, rfl, h66, h7.mono, fun j' hj' hc => ?_⟩
            obtain ⟨u, h9, h10, h11⟩ := hc
            by_cases huv : u = v
            · subst huv
              have := (honly _ _ h9).2
              omega
            · exact h8 j' hj' ⟨u, h9, by omega, h11⟩
        · exact best_same (fun j hp => absurd (honly x j hp).1 hxx) (hbest x hx)
  have : v = n.ends.length := by omega
  subst this
  have hbl : bs.len = n.ends.length := by rw [hOB.1, hBl]
  rw [hbl]
  have hRB := hOB.rep hBI
  refine ⟨IN n.ends.length fun x w' => Chg w7 w' (oB m) ∧ OwnL w' w1.heap.size T.t_int m (roundTo n.ends sides M r x), MN n.ends.length, IN_zero ⟨Chg.refl _ _, hO5.ext hE7⟩, ?_⟩
  rintro _ w17 ⟨x, rfl, hx, hC17, hO17⟩
  intros
  have hE17 : Ext w1 w17 := hC17.ext0 (hE5.trans hE7) fun k hk => (hmb k hk).1
  have hrtl := roundTo_len n.ends sides M r x
  refine cond_dec (fun hlt3 => ?_) (fun hge3 => ?_)
  · have hx' : x < n.ends.length := by omega
    have hxB : x < B.length := by omega
    have hR17 := hRB.chg hC17 fun b hb _ hk => by have := (hmb b hk).2; omega
    have hacc := best_acc hg hx' (hbest x hxB)
    refine hR17.ixI hxB fun q _ hc => LD_int hc ?_
    have hst : roundTo n.ends sides M r (x + 1) = stepW n.ends sides M r (roundTo n.ends sides M r x) x := rfl
    unfold stepW at hst
    cases ha : accOf n.ends sides M r x with
    | none =>
      rw [ha] at hacc hst
      simp only at hacc hst
      rw [hacc]
      refine cond_df (by omega) (IN_next (by omega) hx' ⟨hC17, ?_⟩)
      rw [hst]; exact hO17
    | some j =>
      rw [ha] at hacc hst
      simp only at hacc hst
      obtain ⟨u, hpu, hul, _, _, _, he, _, _⟩ := accOf_some hg hx' ha
      obtain ⟨_, hj2, hee⟩ := port_some hpu
      rw [hacc]
      refine cond_dt (by omega) (LD_bs0 (hb1.ext hE17) ?_)
      refine (h.ext hE17).1.ixL hx' fun q s1 hR hc => LD_sl hc ?_
      refine hR.ixE hj2 fun q _ _ hc0 hc1 => LD_int hc0 ?_
      rw [hee]
      refine IX_own hO17 (i := x) (by omega) rfl fun q hq => ?_
      refine ST_own hO17 (i := x) (by omega) hq (j : Int) rfl fun w18 hO18 hs18 => ?_
      have hul' : u < ((roundTo n.ends sides M r x).set x (j : Int)).length := by simp; omega
      refine IX_own hO18 hul' rfl fun q hq => ?_
      refine ST_own hO18 hul' hq (r : Int) rfl fun w19 hO19 hs19 => ?_
      refine IN_next (by omega) hx' ⟨(hC17.trans (.of_step hs18 fun k hk => hk)).trans (.of_step hs19 fun k hk => hk), ?_⟩
      rw [hst, he]
      simpa [putE] using hO19
  · have : x = n.ends.length := by omega
    subst this
    refine IN_next (by omega) hr' ⟨hE17, ?_⟩
    rw [hdef]
    exact hO17

/-! ### The reference's side -/

theorem mtProposals_ok {w : World} {a b c s : Sl} {n : Net} {sides : List Int} (h : RNet w a b c n) (hs : R w s sides) (hB : Bip n sides) :
    Calls Try.prog F.s_mtProposals #[.agg #[a.v, b.v, c.v], s.v] w (Ret [.at .sl, .at (.int .i64)] fun (r : Sl) (x : Int) w' => Ext w w' ∧ R w' r (propTo n.ends sides (roundsTo n.ends sides n.ends.length).toNat) ∧ x = roundsTo n.ends sides n.ends.length) := by
  refine C_s_mtProposals ?_
  unfold V_s_mtProposals
  have hg := hB.good
  have h40 := hg.size.2
  have hlen := hB.len
  refine NEW_intro fun p w1 hp hs1 hE hb1 => LD_bs0 hb1 ?_
  replace h := h.ext hE
  replace hs := hs.ext hE
  rw [h.1.len]
  refine ⟨IN2 n.ends.length fun i x w' => w1 = w' ∧ x = roundsTo n.ends sides i, MN2 n.ends.length, IN2_zero ⟨rfl, rfl⟩, ?_⟩
  rintro _ _ w3 ⟨i, rfl, hi, rfl, rfl⟩
  intros
  refine cond_dec (fun hlt => ?_) (fun hge => ?_)
  · have hi' : i < n.ends.length := by omega
    have his : i < sides.length := by omega
    have hgd : sides.getD i 0 = sides[i] := by simp [his]
    refine h.1.ixL hi' fun q s1 hR hc => LD_sl hc ?_
    refine hs.ixI his fun q _ hc => LD_int hc ?_
    rw [hR.len]
    refine cond_eq (fun h0 => ?_) (fun h0 => IN2_next (by omega) hi' ⟨rfl, ?_⟩)
    · refine call (l1Most_ok _ _ _) ?_
      rintro x _ ⟨rfl, rfl⟩
      refine IN2_next (by omega) hi' ⟨rfl, ?_⟩
      conv => rhs; unfold roundsTo
      rw [hgd, if_pos h0, rowOf_get hi']
    · conv => rhs; unfold roundsTo
      rw [hgd, if_neg h0]
  have : i = n.ends.length := by omega
  subst this
  have hrl := rounds_le hg sides n.ends.length (Nat.le_refl _)
  obtain ⟨RN, hRN⟩ := Int.eq_ofNat_of_zero_le hrl.1
  rw [hRN] at hrl ⊢
  rw [Int.toNat_natCast]
  refine LD_box3 hb1 ?_
  refine call (mtFree_ok h (by omega)) ?_
  rintro m0 w4 ⟨hE4, hO4⟩
  refine ⟨IN2 RN fun r t w' => Ext w1 w' ∧ R w' t (propTo n.ends sides r), MN2 RN, IN2_zero ⟨hE4, (hO4.rep (propTo_vals (n := n) (sides := sides) hg 0 (by omega)).I64).any⟩, ?_⟩
  rintro t _ w5 ⟨r, rfl, hr, hE5, hR5⟩
  intros
  refine cond_dec (fun hlt => ?_) (fun hge => ?_)
  rotate_left
  · have : r = RN := by omega
    subst this
    exact ⟨hE.trans hE5, hR5, rfl⟩
  have hr' : r < RN := by omega
  have hM := propTo_vals (sides := sides) hg r (by omega)
  have hMl := propTo_len n.ends sides r
  have hdef : propTo n.ends sides (r + 1) = roundTo n.ends sides (propTo n.ends sides r) r n.ends.length := rfl
  generalize propTo n.ends sides r = M at *
  refine call (l1Own_ok hR5 (by omega)) ?_
  rintro bf w6 ⟨hE6, hO6⟩
  have hRb := (hO6.rep hM.I64).any
  refine LD_bs0 (hb1.ext (hE5.trans hE6)) ?_
  rw [h.1.len]
  refine ⟨IN2 n.ends.length fun x t w' => Ext w6 w' ∧ R w' t (roundTo n.ends sides M r x), MN2 n.ends.length, IN2_zero ⟨Ext.refl _, hR5.ext hE6⟩, ?_⟩
  rintro t2 _ w7 ⟨x, rfl, hx, hE7, hR7⟩
  intros
  have hE17 := (hE5.trans hE6).trans hE7
  have hrtl := roundTo_len n.ends sides M r x
  have hrv := roundTo_vals (sides := sides) hg hM (r := r) (by omega) x (by omega)
  refine cond_dec (fun hlt2 => ?_) (fun hge2 => ?_)
  rotate_left
  · have : x = n.ends.length := by omega
    subst this
    refine IN2_next (by omega) hr' ⟨hE17, ?_⟩
    rw [hdef]
    exact hR7
  have hx' : x < n.ends.length := by omega
  have hxs : x < sides.length := by omega
  have hxM : x < M.length := by omega
  have hgs : sides.getD x 0 = sides[x] := by simp [hxs]
  have hgM : M.getD x 0 = M[x] := by simp [hxM]
  have hst : roundTo n.ends sides M r (x + 1) = stepW n.ends sides M r (roundTo n.ends sides M r x) x := rfl
  unfold stepW at hst
  have hget := roundTo_get (sides := sides) (m0 := M) hg (r := r) x (by omega) x (Nat.le_refl _)
  generalize roundTo n.ends sides M r x = L at *
  have hfin : ∀ t' w' Lx, Ext w7 w' → R w' t' Lx → Lx = roundTo n.ends sides M r (x + 1) → V_s_mtProposals_k8 (IN2 n.ends.length fun x t w' => Ext w6 w' ∧ R w' t (roundTo n.ends sides M r x)) (MN2 n.ends.length) t2 (x : Int) w7 t' w' := fun t' w' Lx h1 h2 h3 => by
    unfold V_s_mtProposals_k8
    exact IN2_next (by omega) hx' ⟨hE7.trans h1, h3 ▸ h2⟩
  refine (h.ext hE17).1.ixL hx' fun q s1 hR hc => LD_sl hc ?_
  refine (hs.ext hE17).ixI hxs fun q _ hc => LD_int hc ?_
  refine cond_eq (fun h0 => hfin _ _ L (Ext.refl _) hR7 ?_) (fun h0 => ?_)
  · cases ha : accOf n.ends sides M r x with
    | none => rw [ha] at hst; exact hst.symm
    | some j =>
      obtain ⟨u, hpu, _, _, hsu, _⟩ := accOf_some hg hx' ha
      exact absurd (by rw [hgs, h0, hsu]) (hB.ne hpu)
  refine (hRb.ext hE7).ixI hxM fun q _ hc => LD_int hc ?_
  refine cond_dec (fun h1 => hfin _ _ L (Ext.refl _) hR7 ?_) (fun h1 => ?_)
  · cases ha : accOf n.ends sides M r x with
    | none => rw [ha] at hst; exact hst.symm
    | some j =>
      obtain ⟨u, _, _, _, _, hm, _⟩ := accOf_some hg hx' ha
      omega
  have hxL : x < L.length := by omega
  have hLx : L[x] < 0 := by
    have := hget (by rw [hgs]; exact h0)
    simp [hxL] at this
    rw [this]
    simp [hxM]; omega
  unfold V_s_mtProposals_k9
  rw [hR.len]
  have hRow : ∀ w', Ext w7 w' → SlR (fun _ => True) w' s1 n.ends[x] := fun w' hE' => hR.ext hE'
  refine ⟨IN2 n.ends[x].length fun j t w' => Ext w7 w' ∧ ∃ Lx, R w' t Lx ∧ ((Lx = L ∧ ∀ j' < j, ∀ y : Nat, port n.ends x j' = some ((y : Int), (r : Int)) → ¬ (M.getD y 0 < 0 ∧ sides.getD y 0 = 0)) ∨ ∃ j', accOf n.ends sides M r x = some j' ∧ Lx = putE L (accE n.ends x j')), MN2 n.ends[x].length, IN2_zero ⟨Ext.refl _, L, hR7, .inl ⟨rfl, fun j' hj' => absurd hj' (by omega)⟩⟩, ?_⟩
  rintro t3 _ w9 ⟨j, rfl, hj, hE9, Lx, hRx, hcase⟩
  intros
  have hLxl : Lx.length = L.length := by rcases hcase with ⟨rfl, _⟩ | ⟨j', _, rfl⟩; rfl; rw [putE_len]
  refine cond_dec (fun hlt3 => ?_) (fun hge3 => ?_)
  · have hj' : j < n.ends[x].length := by omega
    have hd6 := hg.deg hx'
    obtain ⟨u, y, hxy, hu, _⟩ := hg.far hx' hj'
    have hpj : port n.ends x j = some ((u : Int), (y : Int)) := by rw [port_get hx' hj', hxy]
    refine (hR.ext hE9).ixE hj' fun q _ _ hc0 hc1 => LD_int2 hc0 hc1 ?_
    rw [hxy]
    refine NEW_ST (one2 _ _) rfl fun pe w11 hpe hE11 hbe => ?_
    replace hE9 := hE9.ext hE11
    replace hRx := hRx.ext hE11
    have hkeep : ∀ Lx', ((Lx' = L ∧ ∀ j' < j + 1, ∀ y : Nat, port n.ends x j' = some ((y : Int), (r : Int)) → ¬ (M.getD y 0 < 0 ∧ sides.getD y 0 = 0)) ∨ ∃ j', accOf n.ends sides M r x = some j' ∧ Lx' = putE L (accE n.ends x j')) → ∀ t' w', Ext w7 w' → R w' t' Lx' → V_s_mtProposals_k12 (IN2 n.ends[x].length fun j t w' => Ext w7 w' ∧ ∃ Lx, R w' t Lx ∧ ((Lx = L ∧ ∀ j' < j, ∀ y : Nat, port n.ends x j' = some ((y : Int), (r : Int)) → ¬ (M.getD y 0 < 0 ∧ sides.getD y 0 = 0)) ∨ ∃ j', accOf n.ends sides M r x = some j' ∧ Lx = putE L (accE n.ends x j'))) (MN2 n.ends[x].length) t3 (j : Int) w9 t' w' := fun Lx' h2 t' w' h3 h4 => by
      unfold V_s_mtProposals_k12
      exact IN2_next (by omega) hj' ⟨h3, Lx', h4, h2⟩
    have hxLx : x < Lx.length := by omega
    refine hRx.ixI hxLx fun q _ hc => LD_int hc ?_
    refine cond_dec (fun h2 => ?_) (fun h2 => ?_)
    rotate_left
    · rcases hcase with ⟨rfl, _⟩ | hc2
      · omega
      · exact hkeep Lx (.inr hc2) _ _ hE9 hRx
    rcases hcase with ⟨rfl, hnone⟩ | ⟨j', hj2, rfl⟩
    rotate_left
    · obtain ⟨u', _, hu', _, hsu', _, he', _, _⟩ := accOf_some hg hx' hj2
      have hne : u' ≠ x := by
        rintro rfl
        rw [hgs] at hsu'
        exact h0 hsu'
      have hval : (putE L (accE n.ends x j'))[x]'(by omega) = (j' : Int) := by
        simp only [he', putE, Int.toNat_natCast]
        rw [List.getElem_set_ne hne, List.getElem_set_self]
      rw [hval] at h2
      omega
    refine LD_bi0 hbe ?_
    have huM : u < M.length := by omega
    have hguM : M.getD u 0 = M[u] := by simp [huM]
    refine (((hRb.ext hE7).ext hE9)).ixI huM fun q _ hc => LD_int hc ?_
    refine cond_dec (fun h3 => LD_bi1 hbe ?_) (fun h3 => hkeep Lx (.inl ⟨rfl, ?_⟩) _ _ hE9 hRx)
    · refine cond_eq (fun h4 => LD_box3 ((hb1.ext hE17).ext hE9) ?_) (fun h4 => hkeep Lx (.inl ⟨rfl, ?_⟩) _ _ hE9 hRx)
      · have hpr : port n.ends x j = some ((u : Int), (r : Int)) := by rw [hpj]; simp only at h4; rw [h4]
        have hsu : sides.getD u 0 = 0 := by
          have h5 := hB.ne hpr
          rcases hB.side hx' with h6 | h6
          · exact absurd (by rw [← hgs]; exact h6) h0
          · rcases hB.side hu with h7 | h7
            · exact h7
            · exact absurd (by rw [h6, h7]) h5
        have hacc := accOf_eq hg hx' (by omega) hpr ⟨by omega, hsu⟩ hnone
        obtain ⟨u2, hpu2, _, _, _, _, he2, _, _⟩ := accOf_some hg hx' hacc
        have hu2 : u2 = u := by
          rw [hpr] at hpu2
          have := congrArg Prod.fst (Option.some.inj hpu2)
          simp at this; omega
        subst hu2
        have hLl : Lx.length = n.ends.length := by omega
        refine call (mtTake_ok ((h.ext hE17).ext hE9) hRx hLl (by omega) hpr hu) ?_
        rintro r1 w12 ⟨hE12, hO12⟩
        rw [← he2] at hO12
        refine hkeep (putE Lx (accE n.ends x j)) (.inr ⟨j, hacc, rfl⟩) _ _ (hE9.trans hE12) (hO12.rep ?_).any
        rw [he2]
        exact putE_all hrv.I64 (by show I64 _; unfold I64; simp only; omega) (by show I64 _; unfold I64; simp only; omega)
      · refine all_succ hnone fun y' hp' hc' => ?_
        rw [hpj] at hp'
        have := congrArg Prod.snd (Option.some.inj hp')
        simp at this h4
        omega
    · refine all_succ hnone fun y' hp' hc' => ?_
      rw [hpj] at hp'
      have := congrArg Prod.fst (Option.some.inj hp')
      simp at this
      have : u = y' := by omega
      subst this
      omega
  · have : j = n.ends[x].length := by omega
    subst this
    refine hfin _ _ Lx hE9 hRx ?_
    rcases hcase with ⟨rfl, hnone⟩ | ⟨j', hj2, rfl⟩
    · cases ha : accOf n.ends sides M r x with
      | none => rw [ha] at hst; exact hst.symm
      | some j =>
        obtain ⟨u, hpu, _, hmu, hsu, _⟩ := accOf_some hg hx' ha
        obtain ⟨_, hj2, _⟩ := port_some hpu
        exact absurd ⟨hmu, hsu⟩ (hnone j hj2 u hpu)
    · rw [hj2] at hst
      exact hst.symm

end Go.Proofs.Ytknnjkmggenliaa
