/- Own texts, merged: Elim1, Concat, Elim2, Split, ElimS1, Elim3, ElimS2, ElimE, Digits, RDel, Elim4, ElimS3. -/
import Derived.Test.YtaeledhbkdakcaaGreatDoorM5
import Derived.Shelf.LaysM
import Derived.Shelf.LaysC
import Derived.Ground.Names2Prog
import Derived.Shelf.Slices.Delete
import Derived.Ground.SlgnProg
import Derived.Ground.SlsfProg
import Derived.Test.YtaeledhbkdakcaaGreatDoorProg
set_option linter.unusedVariables false
section
/- Sets of labels, pairs of labels, first choices: the program. -/
namespace Go.Proofs.YtaeledhbkdakcaaGreatDoor
open Go.GX Go.RowKit
set_option maxRecDepth 100000

/-! ### The labels of a set -/

def labsTo (m a : Nat) : List Int := ((List.range a).filter fun a => m.testBit a).map fun (a : Nat) => (a : Int)

theorem labsTo_succ (m a : Nat) : labsTo m (a + 1) = labsTo m a ++ (if m.testBit a then [(a : Int)] else []) := by
  unfold labsTo
  rw [List.range_succ, List.filter_append, List.map_append]
  by_cases h : m.testBit a = true
  · simp [h]
  · simp [h]

theorem labsTo_end {m a : Nat} (h : m < 2 ^ a) : ∀ b, a ≤ b → labsTo m b = labsTo m a := by
  intro b hb
  induction b with
  | zero => have : a = 0 := by omega
            subst this; rfl
  | succ b ih =>
    by_cases he : a = b + 1
    · rw [he]
    · have hab : a ≤ b := by omega
      have h2 : m < 2 ^ b := Nat.lt_of_lt_of_le h (Nat.pow_le_pow_right (by decide) hab)
      rw [labsTo_succ, Nat.testBit_lt_two_pow h2, ih hab]
      simp

theorem labsOf_eq (m : Nat) : labsOf m = labsTo m 8 := rfl

theorem shr_zero_iff {m a : Nat} : m / 2 ^ a = 0 ↔ m < 2 ^ a := by
  rw [Nat.div_eq_zero_iff]
  have := Nat.two_pow_pos a
  omega

theorem shr_set {m a : Nat} (ha : a ≤ 60) : shrI .i64 (m : Int) (a : Int) = ((m / 2 ^ a : Nat) : Int) := shr_nat .i64 m a (by show a ≤ 64; omega)

theorem bit_test {m a : Nat} (hm : m < 4611686018427387904) : bitAnd .i64 ((m / 2 ^ a : Nat) : Int) 1 = if m.testBit a then 1 else 0 := by
  have h1 : m / 2 ^ a ≤ m := Nat.div_le_self _ _
  have h2 := and_nat (a := m / 2 ^ a) (b := 1) (by omega) (by omega)
  have e : ((1 : Nat) : Int) = 1 := rfl
  rw [e] at h2
  rw [h2, Nat.and_one_is_mod, Nat.testBit_eq_decide_div_mod_eq]
  have h3 : m / 2 ^ a % 2 < 2 := Nat.mod_lt _ (by decide)
  by_cases h : m / 2 ^ a % 2 = 1
  · simp [h]
  · have : m / 2 ^ a % 2 = 0 := by omega
    simp [this]

theorem labsOf_I64 (m : Nat) : ∀ x ∈ labsOf m, I64 x := fun x hx => by
  obtain ⟨a, rfl, h, _⟩ := mem_labsOf.1 hx
  unfold I64; omega

theorem labsTo_len (m a : Nat) : (labsTo m a).length ≤ a := by
  unfold labsTo
  rw [List.length_map]
  have := List.length_filter_le (fun a => m.testBit a) (List.range a)
  rwa [List.length_range] at this

theorem labelsIn_ok {m : Nat} (hm : m < 256) (w : World) :
    Calls Tryz.prog F.i_labelsIn #[.int .i64 m] w (Ret [.at .sl] fun (r : Sl) w' => Ext w w' ∧ OwnL w' w.heap.size T.t_int r (labsOf m)) := by
  refine C_i_labelsIn ?_
  unfold V_i_labelsIn
  refine ⟨fun (out : Sl) (x : Int) w' => ∃ a : Nat, x = a ∧ a ≤ 8 ∧ Ext w w' ∧ OwnL w' w.heap.size T.t_int out (labsTo m a), fun _ x _ => 8 - x.toNat, ⟨0, rfl, by omega, Ext.refl _, OwnL.nil _ _ _⟩, ?_⟩
  rintro out _ w1 ⟨a, rfl, ha, hE1, hO⟩
  intros
  rw [shr_set (by omega)]
  refine ⟨by omega, cond_ne (fun hne => ⟨by omega, ?_⟩) (fun heq => ?_)⟩
  · have ha8 : a < 8 := by
      have h1 : m / 2 ^ a ≠ 0 := fun h => hne (by rw [h]; rfl)
      rcases Nat.lt_or_eq_of_le ha with h | h
      · exact h
      · subst h; exact absurd (shr_zero_iff.2 (by omega)) h1
    rw [bit_test (by omega)]
    have hlen := labsTo_len m a
    have hz := hE1.size_le
    by_cases hb : m.testBit a = true
    · rw [if_pos hb]
      refine cond_t (by rfl) ?_
      refine RUN_lit1 (α := Int) slt_int _ rfl (by decide) fun x w2 hE2 hO2 => ?_
      have hO1 := hO.ext hE2
      refine RUN_append (α := Int) slt_int hO1 (by have := hE2.size_le; omega) (hO2.rep (by intro x hx; rw [List.mem_singleton.1 hx]; show I64 _; unfold I64; omega)).any (by simp; omega) (by simp [maxLen]; omega) fun r w3 hO3 hs3 => ?_
      rw [wrap_of (by omega) (by omega)]
      refine ⟨⟨a + 1, by omega, by omega, hs3.ext0 (hE1.trans hE2) fun k hk => (hO1.blk k hk).1, ?_⟩, by simp only []; omega⟩
      rw [labsTo_succ, if_pos hb]; exact hO3
    · rw [if_neg hb]
      refine cond_f (by rfl) ?_
      rw [wrap_of (by omega) (by omega)]
      refine ⟨⟨a + 1, by omega, by omega, hE1, ?_⟩, by simp only []; omega⟩
      rw [labsTo_succ, if_neg hb, List.append_nil]; exact hO
  · have h1 : m / 2 ^ a = 0 := by have : ((m / 2 ^ a : Nat) : Int) = 0 := heq; omega
    rw [labsOf_eq, labsTo_end (shr_zero_iff.1 h1) 8 ha]
    exact ⟨hE1, hO⟩

/-! ### Pairs of labels -/

/-- The first pair of labels that is not allowed at an edge. -/
def badAt (p : Prob) : List Int → List Int → Option (Int × Int)
  | [], _ => none
  | a :: A, B => match B.find? (fun b => !edgeB p a b) with
    | some b => some (a, b)
    | none => badAt p A B

theorem badAt_none {p : Prob} {B : List Int} : ∀ {A : List Int}, badAt p A B = none ↔ ∀ a ∈ A, ∀ b ∈ B, edgeB p a b = true
  | [] => by simp [badAt]
  | a :: A => by
    rw [badAt]
    cases h : B.find? (fun b => !edgeB p a b) with
    | some b =>
      have h1 := List.find?_some h
      have h2 := List.mem_of_find?_eq_some h
      simp only [reduceCtorEq, false_iff]
      intro hall
      have := hall a (by simp) b h2
      simp [this] at h1
    | none =>
      have h1 := List.find?_eq_none.1 h
      simp only []
      rw [badAt_none (A := A)]
      constructor
      · intro hA x hx b hb
        rcases List.mem_cons.1 hx with rfl | hx
        · have := h1 b hb; simpa using this
        · exact hA x hx b hb
      · intro hA x hx b hb
        exact hA x (List.mem_cons_of_mem _ hx) b hb

theorem badPair_ok {w : World} {c d s t : Sl} {p : Prob} {A B : List Int} (h : RProb w c d p) (hs : SmallP p) (hg : PGood p) (ha : R w s A) (hb : R w t B) :
    Calls Tryz.prog F.i_badPair #[.agg #[.int .i64 p.labels, .int .i64 p.degree, c.v, d.v], s.v, t.v] w (Ret [.at .sl, .at .bool] fun (r : Sl) (x : Bool) w' => Ext w w' ∧ match badAt p A B with | some q => x = true ∧ OwnL w' w.heap.size T.t_int r [q.1, q.2] | none => x = false) := by
  refine C_i_badPair ?_
  unfold V_i_badPair
  refine NEW_intro fun pp w1 hp1 hs1 hE1 hb1 => ?_
  have hA64 := flat_ok ha
  have hB64 := flat_ok hb
  rw [ha.len, hb.len]
  refine ⟨IN A.length fun i w' => Ext w1 w' ∧ badAt p A B = badAt p (A.drop i) B, MN A.length, IN_zero ⟨Ext.refl _, by simp⟩, ?_⟩
  rintro _ w2 ⟨i, rfl, hi, hE2, hI⟩
  intros
  refine cond_dec (fun hlt => ?_) (fun hge => ?_)
  · have hi' : i < A.length := by omega
    rw [List.drop_eq_getElem_cons hi'] at hI
    refine (ha.ext (hE1.trans hE2)).ixI hi' fun q _ hc => LD_int hc ?_
    refine ⟨IN B.length fun j w' => Ext w1 w' ∧ B.find? (fun b => !edgeB p A[i] b) = (B.drop j).find? (fun b => !edgeB p A[i] b), MN B.length, IN_zero ⟨hE2, by simp⟩, ?_⟩
    rintro _ w3 ⟨j, rfl, hj, hE3, hJ⟩
    intros
    refine cond_dec (fun hlt2 => ?_) (fun hge2 => ?_)
    · have hj' : j < B.length := by omega
      rw [List.drop_eq_getElem_cons hj'] at hJ
      refine (hb.ext (hE1.trans hE3)).ixI hj' fun q _ hc => LD_int hc (LD_iiss (hb1.ext hE3) ?_)
      refine call (edge_ok (h.ext (hE1.trans hE3)) hs hg (hA64 _ (List.getElem_mem hi')) (hB64 _ (List.getElem_mem hj'))) ?_
      rintro x w4 ⟨hx, hE4⟩
      have ex : x = edgeB p A[i] B[j] := bool_of hx edgeB_iff
      subst ex
      refine cond_not (fun hf => ?_) (fun ht => ?_)
      · refine RUN_lits slt_int [A[i], B[j]] (by simp) (by simp) rfl rfl fun r w5 hE5 hO5 => ?_
        have hE15 := (hE3.trans hE4).trans hE5
        refine ⟨hE1.trans hE15, ?_⟩
        rw [List.find?_cons_of_pos (by simp [hf])] at hJ
        rw [badAt, hJ] at hI
        rw [hI]
        exact ⟨rfl, hO5.low (by have := (hE1.trans (hE3.trans hE4)).size_le; omega)⟩
      · refine IN_next hb.le hj' ⟨hE3.trans hE4, ?_⟩
        rw [hJ, List.find?_cons_of_neg (by simp [ht])]
    · have : j = B.length := by omega
      subst this
      rw [List.drop_length, List.find?_nil] at hJ
      rw [badAt, hJ] at hI
      exact IN_next ha.le hi' ⟨hE3, hI⟩
  · have : i = A.length := by omega
    subst this
    rw [List.drop_length, badAt] at hI
    rw [hI]
    exact ⟨hE1.trans hE2, rfl⟩

theorem isGoodPair_ok {w : World} {c d s t : Sl} {p : Prob} {A B : List Int} (h : RProb w c d p) (hs : SmallP p) (hg : PGood p) (ha : R w s A) (hb : R w t B) :
    Calls Tryz.prog F.i_isGoodPair #[.agg #[.int .i64 p.labels, .int .i64 p.degree, c.v, d.v], s.v, t.v] w (Ret [.at .bool] fun (x : Bool) w' => Ext w w' ∧ (x = true ↔ ∀ a ∈ A, ∀ b ∈ B, edgeB p a b = true)) := by
  refine C_i_isGoodPair ?_
  unfold V_i_isGoodPair
  refine NEW_intro fun pp w1 hp1 hs1 hE1 hb1 => LD_iiss hb1 ?_
  refine call (badPair_ok (h.ext hE1) hs hg (ha.ext hE1) (hb.ext hE1)) ?_
  rintro r x w2 ⟨hE2, hx⟩
  refine ⟨hE1.trans hE2, ?_⟩
  rw [← badAt_none (p := p)]
  cases hq : badAt p A B with
  | none => rw [hq] at hx; simp only at hx; subst hx; simp
  | some q => rw [hq] at hx; simp only at hx; obtain ⟨rfl, _⟩ := hx; simp

theorem maskOf_small {n : Nat} (hn : n ≤ 8) (f : Nat → Bool) : maskOf n f < 256 := by
  have h1 := maskOf_lt n f
  have h2 : 2 ^ n ≤ 2 ^ 8 := Nat.pow_le_pow_right (by decide) hn
  have h3 : (2 : Nat) ^ 8 = 256 := by decide
  omega

theorem near_lt {p : Prob} (hg : PGood p) (m : Nat) : near p m < 256 := maskOf_small (by have := hg.lab; omega) _

theorem mask_or {n : Nat} (hn : n < 8) (f : Nat → Bool) : bitOr .i64 ((maskOf n f : Nat) : Int) (shlI .i64 1 (n : Int)) = ((maskOf n f ||| 2 ^ n : Nat) : Int) := by
  have h1 := maskOf_small (n := n) (by omega) f
  have h2 : 2 ^ n ≤ 2 ^ 8 := Nat.pow_le_pow_right (by decide) (by omega)
  have h3 : (2 : Nat) ^ 8 = 256 := by decide
  rw [shl_one (by omega), or_nat (by omega) (by omega)]

theorem beside_ok {w : World} {c d : Sl} {p : Prob} {m : Nat} (h : RProb w c d p) (hs : SmallP p) (hg : PGood p) (hm : m < 256) :
    Calls Tryz.prog F.i_beside #[.agg #[.int .i64 p.labels, .int .i64 p.degree, c.v, d.v], .int .i64 m] w (Ret [.at (.int .i64)] fun (x : Int) w' => x = (near p m : Nat) ∧ Ext w w') := by
  refine C_i_beside ?_
  unfold V_i_beside
  refine NEW_intro fun pp w1 hp1 hs1 hE1 hb1 => LD_bi0 hb1 ?_
  have hlab := hg.lab
  let f : Nat → Bool := fun b => (labsOf m).all fun a => edgeB p a b
  refine ⟨fun (x y : Int) w' => ∃ i : Nat, y = i ∧ i ≤ p.labels.toNat ∧ x = (maskOf i f : Nat) ∧ Ext w1 w', fun _ y _ => p.labels.toNat - y.toNat, ⟨0, rfl, Nat.zero_le _, rfl, Ext.refl _⟩, ?_⟩
  rintro _ _ w2 ⟨i, rfl, hi, rfl, hE2⟩
  intros
  refine cond_dec (fun hlt => ?_) (fun hge => ?_)
  · intro w3 hE3 _
    have hE13 := hE2.trans hE3
    have hbi : ∀ x ∈ [(i : Int)], Flat.ok x := fun x hx => by rw [List.mem_singleton.1 hx]; show I64 _; unfold I64; omega
    have hfin : ∀ {w' : World} {x : Bool}, Ext w1 w' → (x = true ↔ ∀ a ∈ labsOf m, ∀ b ∈ [(i : Int)], edgeB p a b = true) → cond x ((0 : Int) ≤ (i : Int) ∧ V_i_beside_k3 (fun (x y : Int) w' => ∃ i : Nat, y = i ∧ i ≤ p.labels.toNat ∧ x = (maskOf i f : Nat) ∧ Ext w1 w') (fun _ y _ => p.labels.toNat - y.toNat) ((maskOf i f : Nat) : Int) (i : Int) w2 (bitOr .i64 ((maskOf i f : Nat) : Int) (shlI .i64 1 (i : Int))) w') (V_i_beside_k3 (fun (x y : Int) w' => ∃ i : Nat, y = i ∧ i ≤ p.labels.toNat ∧ x = (maskOf i f : Nat) ∧ Ext w1 w') (fun _ y _ => p.labels.toNat - y.toNat) ((maskOf i f : Nat) : Int) (i : Int) w2 ((maskOf i f : Nat) : Int) w') := fun {w' x} hE' hx => by
      have ef : x = f i := by
        rw [Bool.eq_iff_iff, hx]
        show _ ↔ ((labsOf m).all fun a => edgeB p a i) = true
        rw [List.all_eq_true]
        simp
      subst ef
      refine cond_b (fun ht => ⟨by omega, ?_⟩) (fun hf => ?_)
      · unfold V_i_beside_k3
        rw [wrap_of (by omega) (by omega), mask_or (by omega)]
        exact ⟨⟨i + 1, by omega, by omega, by rw [maskOf_succ, if_pos ht], hE'⟩, by simp only []; omega⟩
      · unfold V_i_beside_k3
        rw [wrap_of (by omega) (by omega)]
        exact ⟨⟨i + 1, by omega, by omega, by rw [maskOf_succ, hf]; simp, hE'⟩, by simp only []; omega⟩
    refine LD_iiss (hb1.ext hE13) ⟨?_, ?_⟩
    · refine call (labelsIn_ok hm w3) ?_
      rintro r w4 ⟨hE4, hO4⟩
      refine ⟨hE4, ?_⟩
      refine RUN_lit1 (α := Int) slt_int _ rfl (by decide) fun x w5 hE5 hO5 => ⟨hE5, ?_⟩
      have hE15 := (hE13.trans hE4).trans hE5
      refine call (isGoodPair_ok (h.ext (hE1.trans hE15)) hs hg ((hO4.ext hE5).rep (labsOf_I64 m)).any (hO5.rep hbi).any) ?_
      rintro y w6 ⟨hE6, hy⟩
      exact ⟨hE6, hfin (hE15.trans hE6) hy⟩
    · refine RUN_lit1 (α := Int) slt_int _ rfl (by decide) fun x w5 hE5 hO5 => ⟨hE5, ?_⟩
      refine call (labelsIn_ok hm w5) ?_
      rintro r w4 ⟨hE4, hO4⟩
      refine ⟨hE4, ?_⟩
      have hE15 := (hE13.trans hE5).trans hE4
      refine call (isGoodPair_ok (h.ext (hE1.trans hE15)) hs hg (hO4.rep (labsOf_I64 m)).any ((hO5.ext hE4).rep hbi).any) ?_
      rintro y w6 ⟨hE6, hy⟩
      exact ⟨hE6, hfin (hE15.trans hE6) hy⟩
  · have : i = p.labels.toNat := by omega
    subst this
    exact ⟨rfl, hE1.trans hE2⟩

/-! ### Lists of the labels of sets -/

theorem listsOf_ok {w : World} {s t : Sl} {S C : List Int} (hS : R w s S) (hC : R w t C) (hv : ∀ x ∈ S, ∃ m : Nat, x = m ∧ m < 256) (hc : ∀ x ∈ C, 0 ≤ x ∧ x < (S.length : Nat)) (hl : C.length ≤ 1000) :
    Calls Tryz.prog F.i_listsOf #[s.v, t.v] w (Ret [.at .sl] fun (r : Sl) w' => Ext w w' ∧ ∃ ss, RowsD w' w.heap.size T.t_int T.t_sl_int r (listsAt S C) ss) := by
  refine C_i_listsOf ?_
  unfold V_i_listsOf
  rw [hC.len]
  refine ⟨IN2 C.length fun i (out : Sl) w' => Ext w w' ∧ ∃ ss, RowsD w' w.heap.size T.t_int T.t_sl_int out (listsAt S (C.take i)) ss, MN2 C.length, IN2_zero ⟨Ext.refl _, [], RowsD.nil _ _ _ _⟩, ?_⟩
  rintro out _ w1 ⟨i, rfl, hi, hE1, ss, hR⟩
  intros
  refine cond_dec (fun hlt => ?_) (fun hge => ?_)
  · have hi' : i < C.length := by omega
    have hci := hc _ (List.getElem_mem hi')
    refine (hC.ext hE1).ixI hi' fun q _ hcell => LD_int hcell ?_
    obtain ⟨k, hk⟩ := Int.eq_ofNat_of_zero_le hci.1
    have hks : k < S.length := by omega
    rw [hk]
    refine (hS.ext hE1).ixI hks fun q _ hcell => LD_int hcell ?_
    obtain ⟨m, hm, hm8⟩ := hv _ (List.getElem_mem hks)
    rw [hm]
    refine call (labelsIn_ok hm8 w1) ?_
    rintro x w2 ⟨hE2, hO2⟩
    refine RUN_lit1 (α := Sl) slt_rows x rfl (by decide) fun y w3 hE3 hO3 => ?_
    have hE13 := hE2.trans hE3
    have hR3 := hR.ext hE13
    have hz1 := hE1.size_le
    have hz3 := hE13.size_le
    have hll : (listsAt S (C.take i)).length = i := by unfold listsAt; rw [List.length_map, List.length_take]; omega
    refine RUN_append_rowD slt_rows (by decide) hR3 (by omega) ((hO2.ext hE3).low hz1) (hR.fresh (hO2.ext hE3) (Nat.le_refl _)) hO3 (by omega) (by unfold maxLen; omega) fun s' w4 hR4 hs4 => ?_
    refine IN2_next hC.le hi' ⟨hs4.ext0 (hE1.trans hE13) fun k hk => (hR3.own.blk k hk).1, ss ++ [x], ?_⟩
    unfold listsAt at hR4 ⊢
    rw [map_take_succ hi', hk]
    have e : S.getD (Int.toNat ((k : Nat) : Int)) 0 = (m : Int) := by rw [Int.toNat_natCast]; simp [hks, hm]
    rw [e, Int.toNat_natCast]
    exact hR4
  · have : i = C.length := by omega
    subst this
    rw [List.take_length] at hR
    exact ⟨hE1, ss, hR⟩

/-! ### The first choice -/

/-- The first choice from lists, behind what is chosen, that is good. -/
def firstC (P : List Int → Bool) : List (List Int) → List Int → Option (List Int)
  | [], pre => if P pre then some pre else none
  | l :: ls, pre => l.findSome? fun a => firstC P ls (pre ++ [a])

theorem firstC_spec {P : List Int → Bool} : ∀ {ls : List (List Int)} {pre c : List Int}, firstC P ls pre = some c → P c = true ∧ ∃ e ∈ prodL ls, c = pre ++ e
  | [], pre, c, h => by
    rw [firstC] at h
    split at h
    · rename_i hp
      cases h
      exact ⟨hp, [], by simp [prodL], by simp⟩
    · cases h
  | l :: ls, pre, c, h => by
    rw [firstC] at h
    obtain ⟨a, ha, hf⟩ := List.exists_of_findSome?_eq_some h
    obtain ⟨hp, e, he, rfl⟩ := firstC_spec hf
    refine ⟨hp, a :: e, ?_, by simp⟩
    simp only [prodL, List.mem_flatMap, List.mem_map]
    exact ⟨a, ha, e, he, rfl⟩

theorem firstC_none {P : List Int → Bool} : ∀ {ls : List (List Int)} {pre : List Int}, firstC P ls pre = none ↔ ∀ e ∈ prodL ls, P (pre ++ e) = false
  | [], pre => by
    rw [firstC]
    simp only [prodL, List.mem_singleton, forall_eq, List.append_nil]
    by_cases hp : P pre = true
    · simp [hp]
    · simp [hp]
  | l :: ls, pre => by
    rw [firstC, List.findSome?_eq_none_iff]
    constructor
    · intro h e he
      simp only [prodL, List.mem_flatMap, List.mem_map] at he
      obtain ⟨a, ha, e', he', rfl⟩ := he
      have := (firstC_none (ls := ls)).1 (h a ha) e' he'
      simpa using this
    · intro h a ha
      refine (firstC_none (ls := ls)).2 fun e he => ?_
      have := h (a :: e) (by simp only [prodL, List.mem_flatMap, List.mem_map]; exact ⟨a, ha, e, he, rfl⟩)
      simpa using this

theorem firstC_some {P : List Int → Bool} {ls : List (List Int)} : (firstC P ls []).isSome = (prodL ls).any P := by
  rw [Bool.eq_iff_iff, List.any_eq_true]
  cases h : firstC P ls [] with
  | none =>
    have := firstC_none.1 h
    simp only [Option.isSome_none, Bool.false_eq_true, false_iff]
    rintro ⟨e, he, hp⟩
    have h2 := this e he
    rw [List.nil_append] at h2
    rw [h2] at hp; cases hp
  | some c =>
    obtain ⟨hp, e, he, hce⟩ := firstC_spec h
    rw [List.nil_append] at hce
    simp only [Option.isSome_some, true_iff]
    exact ⟨e, he, by rw [← hce]; exact hp⟩

theorem set_take {X : List Int} {k : Nat} (hk : k < X.length) (a : Int) : (X.set k a).take (k + 1) = X.take k ++ [a] := by
  rw [List.take_succ_eq_append_getElem (by simpa using hk), List.take_set_of_le (Nat.le_refl _)]
  simp

theorem fill_ok {w w0 : World} {base : Nat} {s lab : Sl} {L : List (List Int)} {X0 : List Int} {P : List Int → Bool} {f : Fn} {tt cc : Array Value} {p0 p1 p2 p3 : Addr} {t0 t1 t2 t3 : TypeId}
    (hE0 : Ext w w0) (hL : R w0 s L) (hLo : SlR (fun b => b < base) w0 s L) (hwb : w.heap.size ≤ base) (hl : L.length ≤ 1000) (hlab0 : OwnL w0 base T.t_int lab X0)
    (h0 : Box w0 p0 t0 [s.v]) (h1 : Box w0 p1 t1 [.func f tt cc]) (h2 : Box w0 p2 t2 [lab.v]) (h3 : Box w0 p3 t3 [.func (.func F.i_firstChoice_1) #[] #[.pointer (some p0), .pointer (some p1), .pointer (some p2), .pointer (some p3)]])
    (n0 : t0 ≠ T.t_int) (n1 : t1 ≠ T.t_int) (n2 : t2 ≠ T.t_int) (n3 : t3 ≠ T.t_int)
    (hg : ∀ c, c.length = L.length → ∀ w' (r : Sl), Ext w w' → R w' r c → CALLV Tryz.prog (.func f tt cc) #[r.v] w' (Ret [.at .bool] fun (b : Bool) w'' => b = P c ∧ Ext w' w'')) :
    ∀ (n k : Nat), k + n = L.length → ∀ (w' : World) (X : List Int), Chg w0 w' (oB lab) → OwnL w' base T.t_int lab X → X.length = L.length → (∀ x ∈ X, I64 x) →
      CALLV Tryz.prog (.func (.func F.i_firstChoice_1) #[] #[.pointer (some p0), .pointer (some p1), .pointer (some p2), .pointer (some p3)]) #[.int .i64 k] w' (Ret [.at .bool] fun (b : Bool) w'' => Chg w' w'' (oB lab) ∧ ∃ X', OwnL w'' base T.t_int lab X' ∧ X'.length = L.length ∧ (∀ x ∈ X', I64 x) ∧
        match firstC P (L.drop k) (X.take k) with | some c => b = true ∧ X' = c | none => b = false ∧ X'.take k = X.take k) := by
  have hL64 := flat_okII hL
  have hll := hL.len
  have nb : ∀ {pa : Addr} {ta : TypeId} {cs : List Value} {w' : World}, Chg w0 w' (oB lab) → Box w0 pa ta cs → ta ≠ T.t_int → Box w' pa ta cs := fun hC hB hn => hB.chg hC (hB.notOwn hlab0 hn)
  have hnew : ∀ k, oB lab k → base ≤ k := fun k hk => (hlab0.blk k hk).1
  intro n
  induction n with
  | zero =>
    intro k hk w' X hC hX hXl hX64
    have hkl : k = L.length := by omega
    refine CALLV_mk (by kernel_rfl) (C_i_firstChoice_1 ?_)
    unfold V_i_firstChoice_1
    refine LD_bs (nb hC h0 n0) ?_
    rw [hll]
    refine cond_eq (fun _ => LD_val ((nb hC h1 n1).cell (i := 0) rfl) (LD_bs (nb hC h2 n2) ?_)) (fun hne => absurd (by omega) hne)
    refine callv (hg X hXl w' lab (hC.ext0 hE0 fun k hk => by have := hnew k hk; omega) (hX.rep hX64).any) ?_
    rintro b w'' ⟨rfl, hE''⟩
    refine ⟨.of_ext hE'', X, hX.ext hE'', hXl, hX64, ?_⟩
    rw [List.drop_of_length_le (by omega), List.take_of_length_le (by omega), firstC]
    by_cases hp : P X = true
    · rw [if_pos hp]; exact ⟨hp, rfl⟩
    · rw [if_neg hp]; exact ⟨by simpa using hp, rfl⟩
  | succ n ih =>
    intro k hk w' X hC hX hXl hX64
    have hkl : k < L.length := by omega
    refine CALLV_mk (by kernel_rfl) (C_i_firstChoice_1 ?_)
    unfold V_i_firstChoice_1
    refine LD_bs (nb hC h0 n0) ?_
    rw [hll]
    refine cond_eq (fun he => absurd he (by omega)) (fun _ => LD_bs (nb hC h0 n0) ?_)
    refine (hLo.chg hC fun b hb _ hob => by have := hnew b hob; omega).ixL hkl fun q row hrow hc => LD_sl hc ?_
    rw [hrow.len]
    have hdrop : L.drop k = L[k] :: L.drop (k + 1) := List.drop_eq_getElem_cons hkl
    let G : Int → Option (List Int) := fun a => firstC P (L.drop (k + 1)) (X.take k ++ [a])
    have hfc : firstC P (L.drop k) (X.take k) = L[k].findSome? G := by rw [hdrop]; rfl
    rw [hfc]
    refine ⟨fun x w'' => ∃ i : Nat, x = i ∧ i ≤ L[k].length ∧ Chg w0 w'' (oB lab) ∧ Chg w' w'' (oB lab) ∧ (∃ X', OwnL w'' base T.t_int lab X' ∧ X'.length = L.length ∧ (∀ x ∈ X', I64 x) ∧ X'.take k = X.take k) ∧ L[k].findSome? G = (L[k].drop i).findSome? G, fun x _ => L[k].length - x.toNat,
      ⟨0, rfl, Nat.zero_le _, hC, Chg.refl _ _, ⟨X, hX, hXl, hX64, rfl⟩, by simp⟩, ?_⟩
    rintro _ w2 ⟨i, rfl, hi, hC2, hC'2, ⟨X', hX', hXl', hX64', hXt⟩, hI⟩
    intros
    have hrle := hrow.le
    refine cond_dec (fun hlt => ?_) (fun hge => ?_)
    · have hi' : i < L[k].length := by omega
      rw [List.drop_eq_getElem_cons hi'] at hI
      have ha64 := hL64 _ (List.getElem_mem hkl) _ (List.getElem_mem hi')
      refine (hrow.chg hC'2 fun b hb _ hob => by have := hnew b hob; omega).ixI hi' fun q _ hc => LD_int hc (LD_bs (nb hC2 h2 n2) ?_)
      refine IX_own hX' (i := k) (by omega) rfl fun q hq => ?_
      refine ST_own hX' (i := k) (by omega) hq L[k][i] rfl fun w3 hX3 hs3 => ?_
      have hC3 := hC2.trans (.of_step hs3 fun b hb => hb)
      have hC'3 := hC'2.trans (.of_step hs3 fun b hb => hb)
      refine LD_val ((nb hC3 h3 n3).cell (i := 0) rfl) ?_
      rw [wrap_of (by omega) (by omega)]
      have h64s : ∀ x ∈ X'.set k L[k][i], I64 x := fun x hx => by
        rcases List.mem_or_eq_of_mem_set hx with h1 | h1
        · exact hX64' x h1
        · rw [h1]; exact ha64
      refine callv (ih (k + 1) (by omega) w3 _ hC3 hX3 (by simpa using hXl') h64s) ?_
      rintro b w4 ⟨hC4, X4, hX4, hXl4, hX644, hm⟩
      rw [set_take (by omega), hXt] at hm
      have hGa : firstC P (L.drop (k + 1)) (X.take k ++ [L[k][i]]) = G L[k][i] := rfl
      rw [hGa] at hm
      cases hG : G L[k][i] with
      | some c =>
        rw [hG] at hm
        obtain ⟨rfl, rfl⟩ := hm
        refine ⟨hC'3.trans hC4, _, hX4, hXl4, hX644, ?_⟩
        rw [hI, List.findSome?_cons, hG]
        exact ⟨rfl, rfl⟩
      | none =>
        rw [hG] at hm
        obtain ⟨rfl, ht4⟩ := hm
        refine cond_f rfl ?_
        rw [wrap_of (by omega) (by omega)]
        refine ⟨⟨i + 1, by omega, hi', hC3.trans hC4, hC'3.trans hC4, ⟨X4, hX4, hXl4, hX644, ?_⟩, ?_⟩, by simp only []; omega⟩
        · have := congrArg (List.take k) ht4
          rw [List.take_take, Nat.min_eq_left (by omega)] at this
          rw [this, List.take_append_of_le_length (by simp; omega), List.take_take, Nat.min_self]
        · rw [hI, List.findSome?_cons, hG]
    · have : i = L[k].length := by omega
      subst this
      rw [List.drop_length, List.findSome?_nil] at hI
      rw [hI]
      exact ⟨hC'2, X', hX', hXl', hX64', rfl, hXt⟩

theorem firstChoice_ok {w : World} {s : Sl} {L : List (List Int)} {P : List Int → Bool} {f : Fn} {tt cc : Array Value} (hL : R w s L) (hl : L.length ≤ 1000)
    (hg : ∀ c, c.length = L.length → ∀ w' (r : Sl), Ext w w' → R w' r c → CALLV Tryz.prog (.func f tt cc) #[r.v] w' (Ret [.at .bool] fun (b : Bool) w'' => b = P c ∧ Ext w' w'')) :
    Calls Tryz.prog F.i_firstChoice #[s.v, .func f tt cc] w (Ret [.at .sl, .at .bool] fun (r : Sl) (b : Bool) w' => Ext w w' ∧ match firstC P L [] with | some c => b = true ∧ OwnL w' w.heap.size T.t_int r c | none => b = false) := by
  refine C_i_firstChoice ?_
  unfold V_i_firstChoice
  refine NEW_intro fun p0 w1 hp0 hs1 hE1 hb0 => NEW_intro fun p1 w2 hp1 hs2 hE2 hb1 => LD_bs (hb0.ext hE2) ?_
  have hE12 := hE1.trans hE2
  rw [hL.len]
  refine RUN_make (α := Int) slt_int (d := 0) rfl (by omega) (by unfold maxLen; omega) fun lab w3 hE3 hO3 => ?_
  refine NEW_ST (zs := [.slice none 0 0]) (one1s lab) rfl fun p2 w5 hp2 hE5 hb2 => ?_
  refine NEW_intro fun p3 w6 hp3 hs6 hE6 hb6 => ST_all hb6 (vs := [.func (.func F.i_firstChoice_1) #[] #[.pointer (some p0), .pointer (some p1), .pointer (some p2), .pointer (some p3)]]) (by intro v hv; simp at hv; subst hv; rfl) rfl fun w7 hs7 hz7 hb7 => ?_
  have hE7 : Ext w5 w7 := hs7.ext0 hE6 fun k hk => by cases hk; omega
  have hE37 := hE5.trans hE7
  have hz12 := hE12.size_le
  have hz3 := hE3.size_le
  have hE07 := (hE12.trans hE3).trans hE37
  have hL7 := hL.ext hE07
  have hLo : SlR (fun b => b < w2.heap.size) w7 s L := (((hL.ext hE12).below.ext hE3).ext hE37).weak (fun b hb _ => hb.2) RepP.pos
  have hO7 := hO3.ext hE37
  refine LD_val (hb7.cell (i := 0) rfl) ?_
  refine callv (fill_ok (P := P) (base := w2.heap.size) hE07 hL7 hLo hz12 hl hO7 (((hb0.ext hE2).ext hE3).ext hE37) ((hb1.ext hE3).ext hE37) (hb2.ext hE7) hb7 (by decide) (by decide) (by decide) (by decide) hg L.length 0 (by omega) w7 _ (Chg.refl _ _) hO7 (by simp) (by intro x hx; rw [List.eq_of_mem_replicate hx]; unfold I64; omega)) ?_
  rintro b w8 ⟨hC8, X, hX, hXl, hX64, hm⟩
  have hE08 : Ext w w8 := hC8.ext0 hE07 fun k hk => by have := (hO7.blk k hk).1; omega
  rw [List.drop_zero, List.take_zero] at hm
  cases hG : firstC P L [] with
  | some c =>
    rw [hG] at hm
    obtain ⟨rfl, rfl⟩ := hm
    refine cond_f rfl (LD_bs ((hb2.ext hE7).chg hC8 ((hb2.ext hE7).notOwn hO7 (by decide))) ⟨hE08, ?_⟩)
    exact ⟨rfl, hX.low hz12⟩
  | none =>
    rw [hG] at hm
    obtain ⟨rfl, _⟩ := hm
    exact cond_t rfl ⟨hE08, rfl⟩

theorem nodeChoice_ok {w : World} {c d s : Sl} {p : Prob} {L : List (List Int)} (h : RProb w c d p) (hs : SmallP p) (hg : PGood p) (hL : R w s L) (hl : L.length ≤ 1000) :
    Calls Tryz.prog F.i_Problem_nodeChoice #[.agg #[.int .i64 p.labels, .int .i64 p.degree, c.v, d.v], s.v] w (Ret [.at .sl, .at .bool] fun (r : Sl) (b : Bool) w' => Ext w w' ∧ match firstC (nodeB p) L [] with | some c => b = true ∧ OwnL w' w.heap.size T.t_int r c | none => b = false) := by
  refine C_i_Problem_nodeChoice ?_
  unfold V_i_Problem_nodeChoice
  refine NEW_intro fun pp w1 hp1 hs1 hE1 hb1 => ?_
  refine call (firstChoice_ok (P := nodeB p) (hL.ext hE1) hl fun e he w' r hE' hr => ?_) ?_
  · refine CALLV_mk (by kernel_rfl) (C_i_Problem_nodeChoice_1 ?_)
    unfold V_i_Problem_nodeChoice_1
    refine LD_iiss (hb1.ext hE') ?_
    refine call (node_ok ((h.ext hE1).ext hE') hs hg hr (by omega)) ?_
    rintro x w2 ⟨hx, hE2⟩
    exact ⟨bool_of hx nodeB_iff, hE2⟩
  · rintro r b w2 ⟨hE2, hm⟩
    refine ⟨hE1.trans hE2, ?_⟩
    cases hG : firstC (nodeB p) L [] with
    | some c => rw [hG] at hm; exact ⟨hm.1, hm.2.low hE1.size_le⟩
    | none => rw [hG] at hm; exact hm

theorem edgeChoice_ok {w : World} {c d s : Sl} {p : Prob} {L : List (List Int)} (h : RProb w c d p) (hs : SmallP p) (hg : PGood p) (hL : R w s L) (hl : L.length = 2) :
    Calls Tryz.prog F.i_Problem_edgeChoice #[.agg #[.int .i64 p.labels, .int .i64 p.degree, c.v, d.v], s.v] w (Ret [.at .sl, .at .bool] fun (r : Sl) (b : Bool) w' => Ext w w' ∧ match firstC (nodeB2 p) L [] with | some c => b = true ∧ OwnL w' w.heap.size T.t_int r c | none => b = false) := by
  refine C_i_Problem_edgeChoice ?_
  unfold V_i_Problem_edgeChoice
  refine NEW_intro fun pp w1 hp1 hs1 hE1 hb1 => ?_
  refine call (firstChoice_ok (P := nodeB2 p) (hL.ext hE1) (by omega) fun e he w' r hE' hr => ?_) ?_
  · refine CALLV_mk (by kernel_rfl) (C_i_Problem_edgeChoice_1 ?_)
    unfold V_i_Problem_edgeChoice_1
    have h64 := flat_ok hr
    match e, he.trans hl, hr, h64 with
    | [a, b], _, hr, h64 =>
      refine LD_iiss (hb1.ext hE') ?_
      refine hr.ixI (i := 0) (by simp) fun q _ hc => LD_int hc ?_
      refine hr.ixI (i := 1) (by simp) fun q _ hc => LD_int hc ?_
      refine QCALL_bool (edgeB p a b) (edgeQ ((h.ext hE1).ext hE') hs hg (h64 a (by simp)) (h64 b (by simp))) ?_
      intro w2 hE2
      exact ⟨rfl, hE2⟩
  · rintro r b w2 ⟨hE2, hm⟩
    refine ⟨hE1.trans hE2, ?_⟩
    cases hG : firstC (nodeB2 p) L [] with
    | some c => rw [hG] at hm; exact ⟨hm.1, hm.2.low hE1.size_le⟩
    | none => rw [hG] at hm; exact hm

end Go.Proofs.YtaeledhbkdakcaaGreatDoor
end

section
/- slices.Concat at []int (with slices.Grow): the lists one behind the other, in memory of the call's own. -/
namespace Go.GX
open Go.RowKit

/-- append(s, make([]T, n)...) on a nil slice. -/
theorem run_append_made {P : Program} (w : World) (t ti ty e : TypeId) (k : IntKind) (i : TypeInfo) (z : Value) (ht : P.underlying t = some (.slice e)) (hti : P.underlying ti = some (.int k)) (hi : P.info? e = some i) (hz : i.zero = some z)
    (n : Nat) (h0 : 0 < n) (hsz : 0 < i.size) (h63 : n ≤ 1048576) (h48 : n * i.bytes ≤ 281474976710656) :
    (Builtin.append_ #[t, ti] ty #[.slice none 0 0, .int .i64 n]).run P w =
      .ok (.slice (some ⟨w.heap.size, 0, none⟩) n (grownCap w n 0 e)) (w.drew.alloc (.cells (Builtin.zeroCells z.cells n ++ Builtin.zeroCells z.cells (grownCap w n 0 e - n)) e)) := by
  have hn : n ≠ 0 := by omega
  have hw : IntKind.i64.wrap (n : Int) = n := wrap_of (by omega) (by omega)
  have h63' : ¬ (9223372036854775807 < (n : Int)) := by omega
  have h48' : ¬ (281474976710656 < Builtin.nextslicecap n 0 * i.bytes) := by rw [nextslicecap_zero h0]; omega
  have h48'' : ¬ (281474976710656 < (n : Int) * (i.bytes : Int)) := by
    have : ((n * i.bytes : Nat) : Int) ≤ 281474976710656 := by omega
    push_cast at this; omega
  have hns : ¬ (n * i.size = 0) := by
    have := Nat.mul_pos h0 hsz; omega
  have hneg : ¬ ((n : Int) < 0) := by omega
  simp [Builtin.append_, run_underlying ht, run_underlying hti, sizeOf, typeInfo, zeroValue, hi, hz, asInt, asIntOf, hw, hneg, h48'', hn, h63', h48', Question.forced, run_firstCells_none, newRow, grownCap]
  exact fun h => absurd h hns

/-- An empty slice of the call's own, in a block made just now. -/
theorem own_empty {α : Type} [Flat α] {w w' : World} {e : TypeId} {cap : Nat} {cur : Array Value} (hg : w'.heap[w.heap.size]? = some (.cells cur e (0, 0))) (hm : cap ≤ maxLen) (hs : cur.size = cap * Rep.sz α) : OwnL w' w.heap.size e ⟨some ⟨w.heap.size, 0, none⟩, 0, cap⟩ ([] : List α) :=
  ⟨rfl, by simp, .inr ⟨w.heap.size, cap, cur, rfl, Nat.le_refl _, hg, Nat.zero_le _, hm, hs, by simp⟩⟩

end Go.GX
namespace Go.Proofs.YtaeledhbkdakcaaGreatDoor
open Go.GX Go.RowKit
set_option maxRecDepth 100000

theorem grow_nil_ok {n : Nat} (hn : n ≤ 1048576) (w : World) :
    Calls Tryz.prog F.slices_Grow_sl_int_int #[.slice none 0 0, .int .i64 n] w (Ret [.at .sl] fun (r : Sl) w' => Ext w w' ∧ OwnL w' w.heap.size T.t_int r ([] : List Int)) := by
  refine C_slices_Grow_sl_int_int (s := ⟨none, 0, 0⟩) ?_
  unfold V_slices_Grow_sl_int_int
  refine cond_df (by omega) ?_
  have hcap : ∀ {K : Int → World → Prop}, K 0 w → RUN Tryz.prog (.at (.int .i64)) (bsem .cap #[T.t_sl_int] T.t_int #[(⟨none, 0, 0⟩ : Sl).v]) w K := fun hk => by
    have hu := slt_int.under
    unfold RUN
    show (match (Builtin.cap_ #[T.t_sl_int] T.t_int #[.slice none 0 0]).run Tryz.prog w with | .ok v w' => _ | .halt _ _ => False)
    have : (Builtin.cap_ #[T.t_sl_int] T.t_int #[.slice none 0 0]).run Tryz.prog w = .ok (.int .i64 0) w := by simp [Builtin.cap_, underlying_run hu, goInt]
    rw [this]
    exact hk
  refine hcap ?_
  have e1 : IntKind.i64.wrap ((n : Int) - IntKind.i64.wrap (0 - ((⟨none, 0, 0⟩ : Sl).len : Int))) = n := by
    have e0 : IntKind.i64.wrap (0 - ((⟨none, 0, 0⟩ : Sl).len : Int)) = 0 := by rw [wrap_of (by simp) (by simp)]; rfl
    rw [e0, wrap_of (by omega) (by omega)]; omega
  rw [e1]
  refine cond_dec (fun hpos => ?_) (fun hz => ⟨Ext.refl _, OwnL.nil _ _ _⟩)
  refine hcap ?_
  refine ⟨by simp, by simp, by simp, ?_⟩
  obtain ⟨i, hi, hz0, hsz, hby⟩ := slt_int.parts
  have hr := run_append_made (P := Tryz.prog) w T.t_sl_int T.t_int T.t_sl_int T.t_int .i64 i (.int .i64 0) slt_int.under (by kernel_rfl) hi hz0 n (by omega) (by rw [hsz]; decide) hn (by rw [hby]; omega)
  show RUN Tryz.prog (.at .sl) (bsem .append #[T.t_sl_int, T.t_int] T.t_sl_int #[.slice none 0 0, .int .i64 n]) w _
  unfold RUN
  show (match (Builtin.append_ #[T.t_sl_int, T.t_int] T.t_sl_int #[.slice none 0 0, .int .i64 n]).run Tryz.prog w with | .ok v w' => _ | .halt _ _ => False)
  rw [hr]
  have hge := grownCap_ge w n 0 T.t_int
  have hle := grownCap_le_maxLen w n 0 T.t_int (by unfold maxLen; omega)
  have hheap : (w.drew.alloc (.cells (Builtin.zeroCells (Value.int .i64 0).cells n ++ Builtin.zeroCells (Value.int .i64 0).cells (grownCap w n 0 T.t_int - n)) T.t_int)).heap = w.heap.push (.cells (Builtin.zeroCells (Value.int .i64 0).cells n ++ Builtin.zeroCells (Value.int .i64 0).cells (grownCap w n 0 T.t_int - n)) T.t_int) := rfl
  have hE : Ext w (w.drew.alloc (.cells (Builtin.zeroCells (Value.int .i64 0).cells n ++ Builtin.zeroCells (Value.int .i64 0).cells (grownCap w n 0 T.t_int - n)) T.t_int)) := ⟨rfl, rfl, rfl, by rw [hheap]; simp, fun k hk => by rw [hheap]; simp [Array.getElem?_push, Nat.ne_of_lt hk]⟩
  generalize w.drew.alloc (.cells (Builtin.zeroCells (Value.int .i64 0).cells n ++ Builtin.zeroCells (Value.int .i64 0).cells (grownCap w n 0 T.t_int - n)) T.t_int) = W at *
  generalize hcap' : grownCap w n 0 T.t_int = c at *
  have hone : (Value.int .i64 0).cells = #[.int .i64 0] := rfl
  have fin : SLC ⟨some ⟨w.heap.size, 0, none⟩, n, c⟩ none (some (0 : Int)) 1 fun x => Ext w W ∧ OwnL W w.heap.size T.t_int x ([] : List Int) := by
    refine ⟨by simp, by simp, by simp, hE, ?_⟩
    have hc0 : c ≠ 0 := by omega
    simp only [Option.getD_none, Int.toNat_zero, Option.getD_some, Nat.sub_zero, hc0, if_false, Option.map_some, Nat.zero_mul, add_zero']
    have hg : W.heap[w.heap.size]? = some (.cells (Builtin.zeroCells (Value.int .i64 0).cells n ++ Builtin.zeroCells (Value.int .i64 0).cells (c - n)) T.t_int (0, 0)) := by rw [hheap]; exact Array.getElem?_push_size
    refine own_empty (α := Int) hg hle ?_
    rw [Array.size_append, size_zeroCells, size_zeroCells, hone]
    simp [Rep.sz]
    omega
  exact fin

/-- The lists one behind the other. -/
theorem concat_at {w : World} {s : Sl} {L : List (List Int)} {m : Nat} (h : R w s L) (hl0 : L.length ≤ 1048576) (hl : m * L.length ≤ 1048576) (hll : ∀ r ∈ L, r.length ≤ m) :
    Calls Tryz.prog F.slices_Concat_sl_int_int #[s.v] w (Ret [.at .sl] fun (r : Sl) w' => Ext w w' ∧ OwnL w' w.heap.size T.t_int r L.flatten) := by
  refine C_slices_Concat_sl_int_int ?_
  unfold V_slices_Concat_sl_int_int
  rw [h.len]
  have hpl0 : ∀ i, i ≤ L.length → ((L.take i).flatten).length ≤ m * i := by
    intro i
    induction i with
    | zero => simp
    | succ i ih =>
      intro hi
      rw [Nat.mul_succ]
      rw [List.take_succ_eq_append_getElem (by omega), List.flatten_append, List.length_append]
      have := ih (by omega)
      have := hll _ (List.getElem_mem (show i < L.length by omega))
      simp only [List.flatten_cons, List.flatten_nil, List.append_nil]; omega
  have hpl : ∀ i, i ≤ L.length → ((L.take i).flatten).length ≤ 1048576 := fun i hi => by
    have h1 := hpl0 i hi
    have h2 := Nat.mul_le_mul_left m hi
    omega
  refine ⟨IN2 L.length fun i x w' => w = w' ∧ x = ((L.take i).flatten).length, MN2 L.length, IN2_zero ⟨rfl, by simp⟩, ?_⟩
  rintro _ _ _ ⟨i, rfl, hi, rfl, rfl⟩
  intros
  have h1 := hpl i hi
  refine cond_dec (fun hlt => ?_) (fun hge => ?_)
  · have hi' : i < L.length := by omega
    have h2 := hpl (i + 1) (by omega)
    have e2 : ((L.take (i + 1)).flatten).length = ((L.take i).flatten).length + L[i].length := by
      rw [List.take_succ_eq_append_getElem hi', List.flatten_append, List.length_append]; simp only [List.flatten_cons, List.flatten_nil, List.append_nil]
    refine h.ixL hi' fun p r hr hc => LD_sl hc ?_
    rw [hr.len, wrap_of (n := _ + _) (by omega) (by omega)]
    refine cond_df (by omega) (IN2_next (by omega) hi' ⟨rfl, by omega⟩)
  · have : i = L.length := by omega
    subst this
    rw [List.take_length] at h1 ⊢
    refine call (grow_nil_ok (by omega) w) ?_
    rintro r w1 ⟨hE1, hO1⟩
    refine ⟨IN2 L.length fun i (x : Sl) w' => Ext w w' ∧ OwnL w' w.heap.size T.t_int x (L.take i).flatten, MN2 L.length, IN2_zero ⟨hE1, by simpa using hO1⟩, ?_⟩
    rintro x _ w2 ⟨i, rfl, hi, hE2, hO2⟩
    intros
    refine cond_dec (fun hlt => ?_) (fun hge => ?_)
    · have hi' : i < L.length := by omega
      have h2 := hpl (i + 1) (by omega)
      have e2 : ((L.take (i + 1)).flatten) = ((L.take i).flatten) ++ L[i] := by
        rw [List.take_succ_eq_append_getElem hi', List.flatten_append]; simp
      have e3 := congrArg List.length e2
      rw [List.length_append] at e3
      refine (h.ext hE2).ixL hi' fun p r hr hc => LD_sl hc ?_
      refine RUN_append (α := Int) slt_int hO2 hE2.size_le hr.any (by omega) (by unfold maxLen; omega) fun r' w3 hO3 hs3 => ?_
      exact IN2_next (by omega) hi' ⟨hs3.ext0 hE2 (fun k hk => (hO2.blk k hk).1), by rw [e2]; exact hO3⟩
    · have : i = L.length := by omega
      subst this
      exact ⟨hE2, by simpa using hO2⟩

end Go.Proofs.YtaeledhbkdakcaaGreatDoor
end

section
/- New labels, the edge step: the program. -/
namespace Go.Proofs.YtaeledhbkdakcaaGreatDoor
open Go.GX Go.RowKit
set_option maxRecDepth 100000

theorem idx_rise {S : List Int} (h : S.Pairwise (· < ·)) {k : Nat} (hk : k < S.length) : S.idxOf S[k] = k := by
  have hm : S.idxOf S[k] < S.length := List.idxOf_lt_length_of_mem (List.getElem_mem hk)
  have he : S[S.idxOf S[k]] = S[k] := List.getElem_idxOf hm
  rcases Nat.lt_trichotomy (S.idxOf S[k]) k with h1 | h1 | h1
  · have := List.pairwise_iff_getElem.1 h _ _ hm hk h1
    omega
  · exact h1
  · have := List.pairwise_iff_getElem.1 h _ _ hk hm h1
    omega

theorem binSearch_ok {w : World} {s : Sl} {S : List Int} {x : Int} (h : R w s S) (hr : S.Pairwise (· < ·)) (hl : S.length ≤ 1048576) (hx : x ∈ S) :
    Calls Tryz.prog F.slices_BinarySearch_sl_int_int #[s.v, .int .i64 x] w (Ret [.at (.int .i64), .at .bool] fun (i : Int) (_ : Bool) w' => i = (S.idxOf x : Nat) ∧ w = w') := by
  refine C_slices_BinarySearch_sl_int_int ?_
  unfold V_slices_BinarySearch_sl_int_int
  obtain ⟨k, hk, hke⟩ := List.mem_iff_getElem.1 hx
  have hid : S.idxOf x = k := by rw [← hke]; exact idx_rise hr hk
  have hlt : ∀ u v (hu : u < S.length) (hv : v < S.length), u < v → S[u] < S[v] := fun u v hu hv huv => List.pairwise_iff_getElem.1 hr u v hu hv huv
  rw [h.len]
  refine ⟨fun (i j : Int) w' => ∃ a b : Nat, i = a ∧ j = b ∧ a ≤ k ∧ k ≤ b ∧ b ≤ S.length ∧ w = w', fun i j _ => j.toNat - i.toNat, ⟨0, S.length, rfl, rfl, Nat.zero_le _, by omega, Nat.le_refl _, rfl⟩, ?_⟩
  rintro _ _ _ ⟨a, b, rfl, rfl, hak, hkb, hb, rfl⟩
  intros
  refine cond_dec (fun hlt1 => ⟨by decide, ?_⟩) (fun hge => ?_)
  · rw [mid_nat (by omega)]
    have hm : (a + b) / 2 < S.length := by omega
    refine h.ixI hm fun q _ hc => LD_int hc ?_
    refine call (cmpLess_ok _ _ _) ?_
    rintro _ _ ⟨rfl, rfl⟩
    refine cond_dec (fun hl1 => ?_) (fun hg1 => ?_)
    · rw [wrap_of (by omega) (by omega)]
      have : (a + b) / 2 < k := by
        rcases Nat.lt_or_ge ((a + b) / 2) k with h1 | h1
        · exact h1
        · by_cases he : (a + b) / 2 = k
          · simp only [he] at hl1; omega
          · have := hlt k _ hk hm (by omega); omega
      exact ⟨⟨(a + b) / 2 + 1, b, by omega, rfl, by omega, hkb, hb, rfl⟩, by simp only []; omega⟩
    · have : k ≤ (a + b) / 2 := by
        rcases Nat.lt_or_ge ((a + b) / 2) k with h1 | h1
        · have := hlt _ k hm hk h1; omega
        · exact h1
      exact ⟨⟨a, (a + b) / 2, rfl, rfl, hak, this, by omega, rfl⟩, by simp only []; omega⟩
  · have : a = k := by omega
    subst this
    refine cond_dt (by omega) ?_
    refine h.ixI hk fun q _ hc => LD_int hc ?_
    exact cond_eq (fun _ => ⟨by rw [hid], rfl⟩) (fun hne => absurd hke hne)

theorem sets_of_flat {L : List (List Int)} (hB : Byte L) : compTo (sortI L.flatten) (sortI L.flatten).length = setsOf L := by
  refine setsOf_eq hB (compTo_sorted (sortI_sorted _) (Nat.le_refl _)) fun x => ?_
  rw [compTo_mem (Nat.le_refl _), List.take_length, (sortI_perm _).mem_iff, List.mem_flatten]

theorem nums_inM {L : List (List Int)} {k : Nat} (hB : Byte L) (hk : ∀ r ∈ L, r.length = k) : ∀ x ∈ L.map (numsOf (setsOf L)), InM (setsOf L).length k x := fun x hx => by
  obtain ⟨l, hl, rfl⟩ := List.mem_map.1 hx
  have hp := sortI_perm (l.map fun s => (((setsOf L).idxOf s : Nat) : Int))
  refine ⟨?_, sortI_sorted _, fun y hy => ?_⟩
  · unfold numsOf
    rw [sortI_len, List.length_map]; exact hk l hl
  · obtain ⟨s, hs, rfl⟩ := List.mem_map.1 (hp.mem_iff.1 hy)
    have := List.idxOf_lt_length_of_mem ((mem_setsOf hB).2 ⟨l, hl, hs⟩)
    omega

theorem newLabels_ok {w : World} {s : Sl} {L : List (List Int)} {k : Nat} (h : R w s L) (hB : Byte L) (hk : ∀ r ∈ L, r.length = k) (hk4 : k ≤ 4) (hl0 : L.length ≤ 262144) :
    Calls Tryz.prog F.i_newLabels #[s.v] w (Ret [.at .sl, .at .sl] fun (a b : Sl) w' => Ext w w' ∧ OwnL w' w.heap.size T.t_int a (setsOf L) ∧ ∃ tt, RowsD w' w.heap.size T.t_int T.t_sl_int b (ownOf L k) tt) := by
  refine C_i_newLabels ?_
  unfold V_i_newLabels
  have h64 := flat_okII h
  have hmul : k * L.length ≤ 4 * L.length := Nat.mul_le_mul_right _ hk4
  have hflat : L.flatten.length = L.length * k := by
    have : ∀ M : List (List Int), (∀ r ∈ M, r.length = k) → M.flatten.length = M.length * k := by
      intro M
      induction M with
      | nil => simp
      | cons c C ih =>
        intro hM
        rw [List.flatten_cons, List.length_append, ih fun x hx => hM x (List.mem_cons_of_mem _ hx), hM c (by simp), List.length_cons, Nat.succ_mul, Nat.add_comm]
    exact this L hk
  rw [Nat.mul_comm] at hflat
  refine call (concat_at (m := k) h (by omega) (by omega) fun r hr => by rw [hk r hr]; exact Nat.le_refl _) ?_
  rintro x w1 ⟨hE1, hO1⟩
  have hf64 : ∀ y ∈ L.flatten, I64 y := fun y hy => by
    obtain ⟨r, hr, hyr⟩ := List.mem_flatten.1 hy
    exact h64 r hr y hyr
  refine call (sort_ok hO1 (by omega)) ?_
  rintro w2 ⟨hO2, hs2⟩
  have hE2 : Ext w w2 := hs2.ext0 hE1 fun k hk => (hO1.blk k hk).1
  refine call (compact_ok hO2 (sortI_I64 hf64) (by rw [sortI_len]; omega)) ?_
  rintro S w3 ⟨hC3, hO3, hSa⟩
  rw [sets_of_flat hB] at hO3
  have hE3 : Ext w w3 := hC3.ext0 hE2 fun k hk => (hO2.blk k hk).1
  have hz3 := hE3.size_le
  have hS64 : ∀ y ∈ setsOf L, I64 y := fun y hy => by obtain ⟨m, rfl, hm⟩ := setsOf_byte hy; unfold I64; omega
  have hS3 : R w3 S (setsOf L) := (hO3.rep hS64).any
  have hSl := setsOf_len L
  have hSr := setsOf_rise L
  rw [h.len]
  have hn64 : ∀ r ∈ L.map (numsOf (setsOf L)), ∀ y ∈ r, I64 y := fun r hr y hy => by
    have := (nums_inM hB hk r hr).labs y hy
    unfold I64; omega
  refine ⟨IN2 L.length fun i (out : Sl) w' => Ext w3 w' ∧ ∃ ss, RowsD w' w3.heap.size T.t_int T.t_sl_int out ((L.take i).map (numsOf (setsOf L))) ss, MN2 L.length, IN2_zero ⟨Ext.refl _, [], by simpa using RowsD.nil _ _ _ _⟩, ?_⟩
  rintro out _ w4 ⟨i, rfl, hi, hE4, ss, hR4⟩
  intros
  refine cond_dec (fun hlt => ?_) (fun hge => ?_)
  · have hi' : i < L.length := by omega
    have hrl := hk _ (List.getElem_mem hi')
    refine (h.ext (hE3.trans hE4)).ixL hi' fun q row hrow hc => LD_sl hc ?_
    rw [hrow.len]
    let g : Int → Int := fun s => (((setsOf L).idxOf s : Nat) : Int)
    refine ⟨IN2 L[i].length fun j (nu : Sl) w' => Ext w4 w' ∧ OwnL w' w4.heap.size T.t_int nu ((L[i].take j).map g), MN2 L[i].length, IN2_zero ⟨Ext.refl _, OwnL.nil _ _ _⟩, ?_⟩
    rintro nu _ w5 ⟨j, rfl, hj, hE5, hN⟩
    intros
    have hz5 := hE5.size_le
    have hnl : ∀ j, j ≤ L[i].length → ((L[i].take j).map g).length = j := fun j hj => by rw [List.length_map, List.length_take]; omega
    refine cond_dec (fun hlt2 => ?_) (fun hge2 => ?_)
    · have hj' : j < L[i].length := by omega
      refine (hrow.ext hE5).ixI hj' fun q _ hc => LD_int hc ?_
      have hin : L[i][j] ∈ setsOf L := (mem_setsOf hB).2 ⟨_, List.getElem_mem hi', List.getElem_mem hj'⟩
      refine call (binSearch_ok ((hS3.ext hE4).ext hE5) hSr (by omega) hin) ?_
      rintro _ b _ ⟨rfl, rfl⟩
      have hidx := List.idxOf_lt_length_of_mem hin
      refine RUN_lit1 (α := Int) slt_int _ rfl (by decide) fun y w7 hE7 hO7 => ?_
      have hN7 := hN.ext hE7
      have := hnl j hj
      refine RUN_append (α := Int) slt_int hN7 (by have := hE7.size_le; omega) (hO7.rep (by intro x hx; rw [List.mem_singleton.1 hx]; show I64 _; unfold I64; omega)).any (by simp; omega) (by simp [maxLen]; omega) fun nu' w8 hN8 hs8 => ?_
      refine IN2_next hrow.le hj' ⟨hs8.ext0 (hE5.trans hE7) fun k hk => (hN7.blk k hk).1, ?_⟩
      rw [map_take_succ hj']
      exact hN8
    · have : j = L[i].length := by omega
      subst this
      rw [List.take_length] at hN
      refine call (sort_ok hN (by rw [List.length_map]; omega)) ?_
      rintro w9 ⟨hN9, hs9⟩
      have hE49 : Ext w4 w9 := hs9.ext0 hE5 fun k hk => (hN.blk k hk).1
      refine RUN_lit1 (α := Sl) slt_rows nu rfl (by decide) fun y w10 hE10 hO10 => ?_
      have hE410 := hE49.trans hE10
      have hR10 := hR4.ext hE410
      have hz4 := hE4.size_le
      have hz10 := hE410.size_le
      have hll : ((L.take i).map (numsOf (setsOf L))).length = i := by rw [List.length_map, List.length_take]; omega
      refine RUN_append_rowD slt_rows (by decide) hR10 (by omega) ((hN9.ext hE10).low hz4) (hR4.fresh (hN9.ext hE10) (Nat.le_refl _)) hO10 (by omega) (by unfold maxLen; omega) fun out' w11 hR11 hs11 => ?_
      refine IN2_next h.le hi' ⟨hs11.ext0 (hE4.trans hE410) fun k hk => (hR10.own.blk k hk).1, ss ++ [nu], ?_⟩
      rw [map_take_succ hi']
      exact hR11
  · have : i = L.length := by omega
    subst this
    rw [List.take_length] at hR4
    refine call (sortedLists_ok hR4 hn64 (by rw [List.length_map]; omega)) ?_
    rintro r w5 ⟨hC5, A, tt, hA, hAr, hAm, _⟩
    have hE35 : Ext w3 w5 := hC5.ext0 hE4 fun k hk => (hR4.own.blk k hk).1
    refine ⟨hE3.trans hE35, hO3.ext hE35, tt, ?_⟩
    have hAe : A = ownOf L k := confOf_eq hAr hAm (nums_inM hB hk)
    rw [← hAe]
    exact hA.low hz3

/-! ### The edge step -/

/-- A problem and a list that lie in blocks from a number on. -/
structure NewP (base : Nat) (w : World) (z u a : Sl) (q : Prob) (S : List Int) : Prop where
  labels : I64 q.labels
  degree : I64 q.degree
  nodes : SlR (fun b => base ≤ b) w z q.nodes
  edges : SlR (fun b => base ≤ b) w u q.edges
  sets : SlR (fun b => base ≤ b) w a S

theorem NewP.prob {base : Nat} {w : World} {z u a : Sl} {q : Prob} {S : List Int} (h : NewP base w z u a q S) : RProb w z u q := ⟨h.labels, h.degree, h.nodes.any, h.edges.any⟩
theorem NewP.ext {base : Nat} {w w' : World} {z u a : Sl} {q : Prob} {S : List Int} (h : NewP base w z u a q S) (hE : Ext w w') : NewP base w' z u a q S := ⟨h.labels, h.degree, h.nodes.ext hE, h.edges.ext hE, h.sets.ext hE⟩
theorem NewP.low {base b0 : Nat} {w : World} {z u a : Sl} {q : Prob} {S : List Int} (h : NewP base w z u a q S) (hb : b0 ≤ base) : NewP b0 w z u a q S :=
  ⟨h.labels, h.degree, h.nodes.weak (fun b h1 _ => Nat.le_trans hb h1) RepP.pos, h.edges.weak (fun b h1 _ => Nat.le_trans hb h1) RepP.pos, h.sets.weak (fun b h1 _ => Nat.le_trans hb h1) RepP.pos⟩
theorem NewP.step {base : Nat} {w w' : World} {z u a : Sl} {q : Prob} {S : List Int} (h : NewP base w z u a q S) {k : Nat} (hs : Step w w' (some k)) (hk : k < base) : NewP base w' z u a q S :=
  have hne : ∀ b, base ≤ b → some k ≠ some b := fun b hb he => by cases he; omega
  ⟨h.labels, h.degree, h.nodes.stepD hs hne, h.edges.stepD hs hne, h.sets.stepD hs hne⟩

/-- What a step answers: a problem, the sets that its labels stand for, whether there are few. -/
def StIs (w : World) (q : Prob) (few : Prop) (S : List Int) (x y : Int) (z u a : Sl) (b : Bool) (w' : World) : Prop :=
  Ext w w' ∧ ((b = true ∧ few ∧ x = q.labels ∧ y = q.degree ∧ NewP w.heap.size w' z u a q S) ∨ (b = false ∧ ¬ few))

theorem conf_I64 {L : List (List Int)} {size n : Int} (h : ConfOk L size n) (hn : n ≤ 8) : ∀ r ∈ L, ∀ x ∈ r, I64 x := fun r hr x hx => by
  have := (confRow h hr).2 x hx
  unfold I64; omega

def edF (p : Prob) (m : Nat) : Bool := decide (1 ≤ m) && decide (near p m ≠ 0) && decide (near p (near p m) = m)
def edG (p : Prob) (m : Nat) : List Int := [(m : Int), (near p m : Int)]
theorem edgeFull_eq (p : Prob) : edgeFull p = ((List.range (2 ^ p.labels.toNat)).filter (edF p)).map (edG p) := rfl

theorem two_lab {p : Prob} (hg : PGood p) : 2 ^ p.labels.toNat ≤ 256 := by
  have hl := hg.lab
  have h2 : 2 ^ p.labels.toNat ≤ 2 ^ 8 := Nat.pow_le_pow_right (by decide) (by omega)
  have h3 : (2 : Nat) ^ 8 = 256 := by decide
  omega

theorem edge_byte {p : Prob} (hg : PGood p) : Byte (edgeFull p) := fun l hl x hx => by
  rw [edgeFull_eq] at hl
  obtain ⟨m, hm, rfl⟩ := List.mem_map.1 hl
  have hm1 := List.mem_range.1 (List.mem_filter.1 hm).1
  have h2 := two_lab hg
  unfold edG at hx
  rcases List.mem_cons.1 hx with rfl | hx
  · exact ⟨m, rfl, by omega⟩
  · rw [List.mem_singleton.1 hx]; exact ⟨_, rfl, near_lt hg m⟩

theorem edge_two {p : Prob} : ∀ r ∈ edgeFull p, r.length = 2 := fun l hl => by
  rw [edgeFull_eq] at hl
  obtain ⟨m, hm, rfl⟩ := List.mem_map.1 hl
  rfl

theorem edge_len {p : Prob} (hg : PGood p) : (edgeFull p).length ≤ 256 := by
  rw [edgeFull_eq, List.length_map]
  have h1 := List.length_filter_le (edF p) (List.range (2 ^ p.labels.toNat))
  rw [List.length_range] at h1
  have := two_lab hg
  omega

theorem pow_small8 {n k : Nat} (hn : n ≤ 8) (hk : k ≤ 4) : ∀ j, j ≤ k → n ^ j ≤ 1048576 - 1000 := fun j hj => by
  have h1 : n ^ j ≤ 8 ^ j := Nat.pow_le_pow_left hn j
  have h2 : 8 ^ j ≤ 8 ^ 4 := Nat.pow_le_pow_right (by decide) (by omega)
  have h3 : 8 ^ 4 = 4096 := by decide
  omega

theorem small_filter {n k : Nat} (hn : n ≤ 8) (hk : k ≤ 4) (f : List Int → Bool) : SmallM ((msets n k).filter f) := by
  refine ⟨?_, fun r hr => ?_⟩
  · have a1 := List.length_filter_le f (msets n k)
    have a2 := msets_len n k
    have a3 := pow_small8 hn hk k (Nat.le_refl _)
    omega
  · have := (mem_msets.1 (List.mem_filter.1 hr).1).len
    omega

end Go.Proofs.YtaeledhbkdakcaaGreatDoor
end

section
/- Products of problems and what their labelings stand for, both sides. -/
namespace Go.GX
open Go.RowKit

theorem RUN_append_rowG {α : Type} [Flat α] {P : Program} {t e e' : TypeId} {bytes : Nat} {z : Value} (hT : SlT P t e' 1 bytes z) (hne : e ≠ e') {w : World} {base b1 : Nat} {s y r : Sl} {ls : List (List α)} {l : List α} (h : Own2 w base e e' s ls) (hbase : base ≤ w.heap.size)
    (hr : OwnL w base e r l) (hy : OwnL w b1 e' y [r]) (hlen : (ls.length + 1) * bytes ≤ 140737488355328) (hmax : ls.length + 1 ≤ maxLen) {K : Sl → World → Prop}
    (hk : ∀ s' w', Own2 w' base e e' s' (ls ++ [l]) → Step w w' s.v.ownBlock → NewOr w s s' → K s' w') : RUN P (.at .sl) (bsem .append #[t, t] t #[s.v, y.v]) w K := by
  obtain ⟨ss, h1, h2, h3⟩ := h
  refine RUN_appendF (α := Sl) hT h1 hbase (hy.rep fun _ _ => trivial).any (by simp [h2]; exact hlen) (by simp [h2]; exact hmax) fun s' w' hO hs hn => hk s' w' ⟨ss ++ [r], hO, by simp [h2], fun i q m hq hm => ?_⟩ hs hn
  by_cases hi : i < ss.length
  · rw [List.getElem?_append_left hi] at hq
    rw [List.getElem?_append_left (by omega)] at hm
    exact (h3 i q m hq hm).step h1 hne hs
  · rw [List.getElem?_append_right (by omega)] at hq
    rw [List.getElem?_append_right (by omega), ← h2] at hm
    have : i - ss.length = 0 := by
      have := (List.getElem?_eq_some_iff.1 hq).1
      simp at this; omega
    rw [this] at hq hm
    simp at hq hm
    subst hq; subst hm
    exact hr.step h1 hne hs

end Go.GX
namespace Go.Proofs.YtaeledhbkdakcaaGreatDoor
open Go.GX Go.RowKit
set_option maxRecDepth 100000

theorem filter_take_succ {α : Type} {l : List α} {i : Nat} (hi : i < l.length) (p : α → Bool) : (l.take (i + 1)).filter p = (l.take i).filter p ++ (if p l[i] then [l[i]] else []) := by
  rw [List.take_succ_eq_append_getElem hi, List.filter_append]
  by_cases h : p l[i] = true
  · simp [h]
  · simp [h]

/-! ### The product -/

/-! ### What a labeling of the product stands for -/

structure Spl2 (w w' : World) (k : Int) (L : List (List Int)) (i : Nat) (a b : Sl) (ss ss' : List Sl) : Prop where
  ext : Ext w w'
  fst : RowsD w' w.heap.size T.t_int T.t_sl_int a ((L.take i).map (firsts k)) ss
  snd : RowsD w' w.heap.size T.t_int T.t_sl_int b ((L.take i).map (seconds k)) ss'
  off : ∀ x, MB a ss x → ¬ MB b ss' x

end Go.Proofs.YtaeledhbkdakcaaGreatDoor
end

section
/- Sets of labels, choices, lists that are inserted: the reference. -/
namespace Go.Proofs.YtaeledhbkdakcaaGreatDoor
open Go.GX Go.RowKit
set_option maxRecDepth 100000

theorem elHas_ok {m a : Nat} (ha : a ≤ 60) (w : World) : Calls Tryz.prog F.s_elHas #[.int .i64 m, .int .i64 a] w (Ret [.at .bool] fun (b : Bool) w' => b = m.testBit a ∧ w = w') := by
  refine C_s_elHas ?_
  unfold V_s_elHas
  refine ⟨by omega, by decide, ?_, rfl⟩
  rw [shr_set ha, Nat.testBit_eq_decide_div_mod_eq]
  have e2 : (2 : Int) = ((2 : Nat) : Int) := rfl
  rw [e2, ← Int.ofNat_tmod]
  have h3 : m / 2 ^ a % 2 < 2 := Nat.mod_lt _ (by decide)
  by_cases h : m / 2 ^ a % 2 = 1
  · simp [h]
  · have : m / 2 ^ a % 2 = 0 := by omega
    simp [this]

theorem elLabels_ok (m : Nat) (w : World) :
    Calls Tryz.prog F.s_elLabels #[.int .i64 m] w (Ret [.at .sl] fun (r : Sl) w' => Ext w w' ∧ OwnL w' w.heap.size T.t_int r (labsOf m)) := by
  refine C_s_elLabels ?_
  unfold V_s_elLabels
  refine ⟨fun (out : Sl) (x : Int) w' => ∃ a : Nat, x = a ∧ a ≤ 8 ∧ Ext w w' ∧ OwnL w' w.heap.size T.t_int out (labsTo m a), fun _ x _ => 8 - x.toNat, ⟨0, rfl, by omega, Ext.refl _, OwnL.nil _ _ _⟩, ?_⟩
  rintro out _ w1 ⟨a, rfl, ha, hE1, hO⟩
  intros
  refine cond_dec (fun hlt => ?_) (fun hge => ?_)
  · refine call (elHas_ok (by omega) w1) ?_
    rintro _ _ ⟨rfl, rfl⟩
    have hlen := labsTo_len m a
    have hz := hE1.size_le
    refine cond_b (fun hb => ?_) (fun hb => ?_)
    · refine RUN_lit1 (α := Int) slt_int _ rfl (by decide) fun x w2 hE2 hO2 => ?_
      have hO1 := hO.ext hE2
      refine RUN_append (α := Int) slt_int hO1 (by have := hE2.size_le; omega) (hO2.rep (by intro x hx; rw [List.mem_singleton.1 hx]; show I64 _; unfold I64; omega)).any (by simp; omega) (by simp [maxLen]; omega) fun r w3 hO3 hs3 => ?_
      rw [wrap_of (by omega) (by omega)]
      refine ⟨⟨a + 1, by omega, by omega, hs3.ext0 (hE1.trans hE2) fun k hk => (hO1.blk k hk).1, ?_⟩, by simp only []; omega⟩
      rw [labsTo_succ, if_pos hb]; exact hO3
    · rw [wrap_of (by omega) (by omega)]
      refine ⟨⟨a + 1, by omega, by omega, hE1, ?_⟩, by simp only []; omega⟩
      rw [labsTo_succ, hb]; simpa using hO
  · have : a = 8 := by omega
    subst this
    exact ⟨hE1, hO⟩

theorem elNear_ok {w : World} {c d : Sl} {p : Prob} {m : Nat} (h : RProb w c d p) (hg : PGood p) :
    Calls Tryz.prog F.s_elNear #[.agg #[.int .i64 p.labels, .int .i64 p.degree, c.v, d.v], .int .i64 m] w (Ret [.at (.int .i64)] fun (x : Int) w' => x = (near p m : Nat) ∧ Ext w w') := by
  refine C_s_elNear ?_
  unfold V_s_elNear
  refine NEW_intro fun pp w1 hp1 hs1 hE1 hb1 => ?_
  have hlab := hg.lab
  let f : Nat → Bool := fun b => (labsOf m).all fun a => edgeB p a b
  refine ⟨fun (x y : Int) w' => ∃ i : Nat, y = i ∧ i ≤ p.labels.toNat ∧ x = (maskOf i f : Nat) ∧ Ext w1 w', fun _ y _ => p.labels.toNat - y.toNat, ⟨0, rfl, Nat.zero_le _, rfl, Ext.refl _⟩, ?_⟩
  rintro _ _ w2 ⟨i, rfl, hi, rfl, hE2⟩
  intros
  refine LD_bi0 (hb1.ext hE2) ?_
  refine cond_dec (fun hlt => ?_) (fun hge => ?_)
  · refine call (elLabels_ok m w2) ?_
    rintro r w3 ⟨hE3, hO3⟩
    have hE13 := hE2.trans hE3
    have hR3 := (hO3.rep (labsOf_I64 m)).any
    have hL64 := labsOf_I64 m
    rw [hR3.len]
    refine ⟨fun (al : Bool) (x : Int) w' => ∃ j : Nat, x = j ∧ j ≤ (labsOf m).length ∧ al = (((labsOf m).take j).all fun a => edgeB p a i) ∧ Ext w3 w', fun _ x _ => (labsOf m).length - x.toNat, ⟨0, rfl, Nat.zero_le _, rfl, Ext.refl _⟩, ?_⟩
    rintro _ _ w4 ⟨j, rfl, hj, rfl, hE4⟩
    intros
    have hll := hR3.le
    have hst : ∀ {w' : World} {b : Bool}, Ext w3 w' → ∀ hj' : j < (labsOf m).length, b = (((labsOf m).take (j + 1)).all fun a => edgeB p a i) → (∃ j' : Nat, IntKind.i64.wrap ((j : Int) + 1) = j' ∧ j' ≤ (labsOf m).length ∧ b = (((labsOf m).take j').all fun a => edgeB p a i) ∧ Ext w3 w') ∧ (labsOf m).length - (IntKind.i64.wrap ((j : Int) + 1)).toNat < (labsOf m).length - ((j : Int)).toNat := fun {w' b} hE' hj' hb => by
      rw [wrap_of (by omega) (by omega)]
      exact ⟨⟨j + 1, by omega, hj', hb, hE'⟩, by omega⟩
    refine cond_dec (fun hlt2 => ?_) (fun hge2 => ?_)
    · have hj' : j < (labsOf m).length := by omega
      refine (hR3.ext hE4).ixI hj' fun q _ hc => LD_int hc ?_
      refine cond_b (fun ht => LD_iiss (hb1.ext (hE13.trans hE4)) ?_) (fun hf => hst hE4 hj' (by rw [List.take_succ_eq_append_getElem hj', List.all_append, hf]; rfl))
      refine call (prEdge_ok (h.ext (hE1.trans (hE13.trans hE4))) (hL64 _ (List.getElem_mem hj')) (by unfold I64; omega)) ?_
      rintro x w5 ⟨hx, hE5⟩
      have ex : x = edgeB p (labsOf m)[j] i := bool_of hx edgeB_iff
      refine hst (hE4.trans hE5) hj' ?_
      rw [List.take_succ_eq_append_getElem hj', List.all_append, ht, ex]
      simp
    · have : j = (labsOf m).length := by omega
      subst this
      rw [List.take_length]
      have hE14 := hE13.trans hE4
      refine cond_b (fun ht => ⟨by omega, ?_⟩) (fun hf => ?_)
      · have h1 := maskOf_small (n := i) (by omega) f
        have h2 : 2 ^ i ≤ 2 ^ 8 := Nat.pow_le_pow_right (by decide) (by omega)
        have h3 : (2 : Nat) ^ 8 = 256 := by decide
        have hadd := maskOf_add i f
        rw [if_pos (show f i = true from ht)] at hadd
        rw [shl_one (by omega)]
        generalize 2 ^ i = q at h2 hadd ⊢
        rw [wrap_of (n := _ + 1) (by omega) (by omega), wrap_of (by omega) (by omega)]
        refine ⟨⟨i + 1, by omega, by omega, ?_, hE14⟩, by simp only []; omega⟩
        rw [hadd]
        push_cast
        rfl
      · rw [wrap_of (by omega) (by omega)]
        refine ⟨⟨i + 1, by omega, by omega, ?_, hE14⟩, by simp only []; omega⟩
        have hf' : f i = false := hf
        rw [maskOf_add, hf']; simp
  · have : i = p.labels.toNat := by omega
    subst this
    exact ⟨rfl, hE1.trans hE2⟩

/-! ### Numbers of sets -/

theorem elNumbers_ok {w : World} {s t : Sl} {S x : List Int} (hS : R w s S) (hx : R w t x) (hr : S.Pairwise (· < ·)) (hin : ∀ y ∈ x, y ∈ S) (hl : S.length ≤ 256) (hxl : x.length ≤ 1000) :
    Calls Tryz.prog F.s_elNumbers #[s.v, t.v] w (Ret [.at .sl] fun (r : Sl) w' => Ext w w' ∧ OwnL w' w.heap.size T.t_int r (numsOf S x)) := by
  refine C_s_elNumbers ?_
  unfold V_s_elNumbers
  let g : Int → Int := fun s => ((S.idxOf s : Nat) : Int)
  rw [hx.len]
  have hg64 : ∀ l : List Int, (∀ y ∈ l, y ∈ S) → ∀ z ∈ l.map g, I64 z := fun l hl z hz => by
    obtain ⟨y, hy, rfl⟩ := List.mem_map.1 hz
    have := List.idxOf_lt_length_of_mem (hl y hy)
    show I64 ((S.idxOf y : Nat) : Int)
    unfold I64; omega
  have hml : ∀ j, j ≤ x.length → ((x.take j).map g).length = j := fun j hj => by rw [List.length_map, List.length_take]; omega
  refine ⟨IN2 x.length fun i (out : Sl) w' => Ext w w' ∧ OwnL w' w.heap.size T.t_int out ((x.take i).map g), MN2 x.length, IN2_zero ⟨Ext.refl _, OwnL.nil _ _ _⟩, ?_⟩
  rintro out _ w1 ⟨i, rfl, hi, hE1, hO⟩
  intros
  refine cond_dec (fun hlt => ?_) (fun hge => ?_)
  · have hi' : i < x.length := by omega
    refine (hx.ext hE1).ixI hi' fun q _ hc => LD_int hc ?_
    obtain ⟨k, hk, hke⟩ := List.mem_iff_getElem.1 (hin _ (List.getElem_mem hi'))
    have hidx : S.idxOf x[i] = k := by rw [← hke]; exact idx_rise hr hk
    rw [hS.len]
    have hmi := hml i hi
    refine ⟨fun (o : Sl) (y : Int) w' => ∃ j : Nat, y = j ∧ j ≤ S.length ∧ Ext w w' ∧ OwnL w' w.heap.size T.t_int o ((x.take i).map g ++ if k < j then [g x[i]] else []), fun _ y _ => S.length - y.toNat, ⟨0, rfl, Nat.zero_le _, hE1, by simpa using hO⟩, ?_⟩
    rintro o _ w2 ⟨j, rfl, hj, hE2, hO2⟩
    intros
    refine cond_dec (fun hlt2 => ?_) (fun hge2 => ?_)
    · have hj' : j < S.length := by omega
      refine (hS.ext hE2).ixI hj' fun q _ hc => LD_int hc ?_
      refine cond_eq (fun heq => ?_) (fun hne => ?_)
      · have he : x[i] = S[j] := heq
        have hjk : j = k := by rw [← hidx, he]; exact (idx_rise hr hj').symm
        subst hjk
        rw [if_neg (by omega), List.append_nil] at hO2
        refine RUN_lit1 (α := Int) slt_int _ rfl (by decide) fun y w3 hE3 hO3 => ?_
        have hz := hE2.size_le
        refine RUN_append (α := Int) slt_int (hO2.ext hE3) (by have := hE3.size_le; omega) (hO3.rep (by intro x hx; rw [List.mem_singleton.1 hx]; show I64 _; unfold I64; omega)).any (by simp; omega) (by simp [maxLen]; omega) fun r w4 hO4 hs4 => ?_
        rw [wrap_of (by omega) (by omega)]
        refine ⟨⟨j + 1, by omega, hj', hs4.ext0 (hE2.trans hE3) fun k hk => ((hO2.ext hE3).blk k hk).1, ?_⟩, by simp only []; omega⟩
        rw [if_pos (by omega)]
        show OwnL w4 w.heap.size T.t_int r (_ ++ [((S.idxOf x[i] : Nat) : Int)])
        rw [hidx]; exact hO4
      · have hjk : j ≠ k := fun h => by subst h; exact hne hke.symm
        rw [wrap_of (by omega) (by omega)]
        refine ⟨⟨j + 1, by omega, hj', hE2, ?_⟩, by simp only []; omega⟩
        by_cases hkj : k < j
        · rw [if_pos hkj] at hO2; rw [if_pos (by omega)]; exact hO2
        · rw [if_neg hkj] at hO2; rw [if_neg (by omega)]; exact hO2
    · have : j = S.length := by omega
      subst this
      rw [if_pos hk] at hO2
      refine IN2_next hx.le hi' ⟨hE2, ?_⟩
      rw [map_take_succ hi']
      exact hO2
  · have : i = x.length := by omega
    subst this
    rw [List.take_length] at hO
    refine call (prSorted_ok (hO.rep (hg64 x hin)).any (by rw [List.length_map]; omega)) ?_
    rintro r w2 ⟨hE2, hO2⟩
    exact ⟨hE1.trans hE2, hO2.low hE1.size_le⟩

/-! ### Choices -/

theorem nil_at (w : World) (D : Nat → Prop) : SlR D w (⟨none, 0, 0⟩ : Sl) ([] : List Int) := ⟨rfl, by simp, fun i x hx => by simp at hx⟩

theorem elChoice_ok {good : List (List Int)} {S : List Int} (hv : ∀ x ∈ S, ∃ m : Nat, x = m ∧ m < 256) (hl : S.length ≤ 1000) : ∀ (n : Nat) {w : World} {g s ch : Sl} {pre : List Int} {D : Nat → Prop}, pre.length + n = S.length → R w g good → R w s S → SlR D w ch pre →
    Calls Tryz.prog F.s_elChoice #[g.v, s.v, ch.v] w (Ret [.at .sl, .at .bool] fun (r : Sl) (b : Bool) w' => Ext w w' ∧ match firstC (fun c => decide (sortI c ∈ good)) ((S.drop pre.length).map fun x => labsOf x.toNat) pre with | some c => b = true ∧ SlR (fun b => D b ∨ w.heap.size ≤ b) w' r c | none => b = false)
  | 0, w, g, s, ch, pre, D, hn, hg, hS, hch => by
    refine C_s_elChoice ?_
    unfold V_s_elChoice
    rw [hch.len, hS.len]
    refine cond_eq (fun _ => ?_) (fun hne => absurd (by omega) hne)
    refine call (prSorted_ok hch.any (by omega)) ?_
    rintro x w1 ⟨hE1, hO1⟩
    refine call (prHas_ok (hg.ext hE1) (hO1.rep (sortI_I64 (flat_ok hch.any))).any) ?_
    rintro _ w2 ⟨rfl, hE2⟩
    refine ⟨hE1.trans hE2, ?_⟩
    rw [List.drop_of_length_le (by omega), List.map_nil, firstC]
    by_cases hp : sortI pre ∈ good
    · simp only [hp, decide_true, if_true]
      exact ⟨trivial, (hch.ext (hE1.trans hE2)).weak (fun b hb _ => .inl hb) RepP.pos⟩
    · simp [hp]
  | n + 1, w, g, s, ch, pre, D, hn, hg, hS, hch => by
    have hp64 := flat_ok hch.any
    refine C_s_elChoice ?_
    unfold V_s_elChoice
    rw [hch.len, hS.len]
    refine cond_eq (fun he => absurd he (by omega)) (fun _ => ?_)
    have hk : pre.length < S.length := by omega
    refine hS.ixI hk fun q _ hc => LD_int hc ?_
    obtain ⟨m, hm, hm8⟩ := hv _ (List.getElem_mem hk)
    rw [hm]
    refine call (elLabels_ok m w) ?_
    rintro row w3 ⟨hE3, hO3⟩
    have hR3 := (hO3.rep (labsOf_I64 m)).any
    have hL64 := labsOf_I64 m
    rw [hR3.len]
    let rest : List (List Int) := (S.drop (pre.length + 1)).map fun x => labsOf x.toNat
    let P : List Int → Bool := fun c => decide (sortI c ∈ good)
    let G : Int → Option (List Int) := fun a => firstC P rest (pre ++ [a])
    have hfc : firstC P ((S.drop pre.length).map fun x => labsOf x.toNat) pre = (labsOf m).findSome? G := by
      rw [List.drop_eq_getElem_cons hk, List.map_cons, hm]
      rfl
    rw [hfc]
    have hrle := hR3.le
    refine ⟨fun x w' => ∃ i : Nat, x = i ∧ i ≤ (labsOf m).length ∧ Ext w3 w' ∧ (labsOf m).findSome? G = ((labsOf m).drop i).findSome? G, fun x _ => (labsOf m).length - x.toNat, ⟨0, rfl, Nat.zero_le _, Ext.refl _, by simp⟩, ?_⟩
    rintro _ w4 ⟨i, rfl, hi, hE4, hI⟩
    intros
    have hE04 := hE3.trans hE4
    refine cond_dec (fun hlt => ?_) (fun hge => ?_)
    · have hi' : i < (labsOf m).length := by omega
      rw [List.drop_eq_getElem_cons hi'] at hI
      refine (hR3.ext hE4).ixI hi' fun q _ hc => LD_int hc ?_
      refine call (l1Own_ok (hch.any.ext hE04) (by omega)) ?_
      rintro x5 w5 ⟨hE5, hO5⟩
      refine RUN_lit1 (α := Int) slt_int _ rfl (by decide) fun y w6 hE6 hO6 => ?_
      refine RUN_append (α := Int) slt_int (hO5.ext hE6) (by have := hE5.size_le; have := hE6.size_le; omega) (hO6.rep (by intro x hx; rw [List.mem_singleton.1 hx]; exact hL64 _ (List.getElem_mem hi'))).any (by simp; omega) (by simp [maxLen]; omega) fun r w7 hO7 hs7 => ?_
      have hE47 : Ext w4 w7 := hs7.ext0 (hE5.trans hE6) fun k hk => ((hO5.ext hE6).blk k hk).1
      have hE07 := hE04.trans hE47
      have h64p : ∀ x ∈ pre ++ [(labsOf m)[i]], I64 x := fun x hx => by
        rcases List.mem_append.1 hx with h1 | h1
        · exact hp64 x h1
        · rw [List.mem_singleton.1 h1]; exact hL64 _ (List.getElem_mem hi')
      refine call (elChoice_ok hv hl n (pre := pre ++ [(labsOf m)[i]]) (by simp; omega) (hg.ext hE07) (hS.ext hE07) (hO7.rep h64p)) ?_
      rintro r8 b w8 ⟨hE8, hm8'⟩
      have hlen : (pre ++ [(labsOf m)[i]]).length = pre.length + 1 := by simp
      rw [hlen] at hm8'
      have hGa : firstC (fun c => decide (sortI c ∈ good)) ((S.drop (pre.length + 1)).map fun x => labsOf x.toNat) (pre ++ [(labsOf m)[i]]) = G (labsOf m)[i] := rfl
      rw [hGa] at hm8'
      cases hG : G (labsOf m)[i] with
      | some c =>
        rw [hG] at hm8'
        obtain ⟨rfl, hr⟩ := hm8'
        refine ⟨hE07.trans hE8, ?_⟩
        rw [hI, List.findSome?_cons, hG]
        have hz4 := hE04.size_le
        have hz7 := hE07.size_le
        exact ⟨rfl, hr.weak (fun b hb _ => .inr (by rcases hb with h1 | h1 <;> omega)) RepP.pos⟩
      | none =>
        rw [hG] at hm8'
        subst hm8'
        refine cond_f rfl ?_
        rw [wrap_of (by omega) (by omega)]
        refine ⟨⟨i + 1, by omega, hi', hE4.trans (hE47.trans hE8), ?_⟩, by simp only []; omega⟩
        rw [hI, List.findSome?_cons, hG]
    · have : i = (labsOf m).length := by omega
      subst this
      rw [List.drop_length, List.findSome?_nil] at hI
      rw [hI]
      exact ⟨hE04, rfl⟩

theorem elSome_ok {w : World} {g s : Sl} {good : List (List Int)} {S : List Int} {k : Nat} (hg : R w g good) (hS : R w s S) (hv : ∀ x ∈ S, ∃ m : Nat, x = m ∧ m < 256) (hn : S.length ≤ 8) (hk : k ≤ 4) :
    Calls Tryz.prog F.s_elSome #[g.v, s.v, .int .i64 k] w (Ret [.at .sl] fun (r : Sl) w' => Ext w w' ∧ Own2 w' w.heap.size T.t_int T.t_sl_int r (someOf (fun c => decide (sortI c ∈ good)) S k)) := by
  refine C_s_elSome ?_
  unfold V_s_elSome
  rw [hS.len]
  have hpow := pow_small8 hn hk
  refine call (reChoices_ok w (by omega) (by omega) hpow) ?_
  rintro x w1 ⟨hE1, ss, hM⟩
  have h64 : ∀ r ∈ msets S.length k, ∀ x ∈ r, I64 x := fun r hr x hx => by have := (mem_msets.1 hr).labs x hx; unfold I64; omega
  have hml := Nat.le_trans (msets_len S.length k) (hpow k (Nat.le_refl _))
  have hR := hM.rep h64
  rw [hR.len]
  let p : List Int → Bool := fun c => (prodL (listsAt S c)).any fun c => decide (sortI c ∈ good)
  have hz1 := hE1.size_le
  have hS64 : ∀ y ∈ S, I64 y := fun y hy => by obtain ⟨m, rfl, hm⟩ := hv y hy; unfold I64; omega
  refine ⟨IN2 (msets S.length k).length fun i (out : Sl) w' => Ext w1 w' ∧ Own2 w' w.heap.size T.t_int T.t_sl_int out (((msets S.length k).take i).filter p) ∧ ∀ b, oB out b → w1.heap.size ≤ b, MN2 (msets S.length k).length, IN2_zero ⟨Ext.refl _, by simpa using Own2.nil _ _ _ _, fun b hb => by cases hb⟩, ?_⟩
  rintro out _ w2 ⟨i, rfl, hi, hE2, hO, hob⟩
  intros
  refine cond_dec (fun hlt => ?_) (fun hge => ?_)
  · have hi' : i < (msets S.length k).length := by omega
    have hMi := mem_msets.1 (List.getElem_mem hi')
    have hlen := hMi.len
    refine (hM.ext hE2).ix hi' fun q row hrow hOr hc _ => LD_sl hc ?_
    refine call (coThrough_ok ((hS.ext hE1).ext hE2) (hOr.rep (h64 _ (List.getElem_mem hi'))).any (fun x hx => ?_) (by omega)) ?_
    · have := hMi.labs x hx
      exact ⟨x.toNat, by omega, by omega⟩
    rintro a w3 ⟨hE3, hA⟩
    have hab : ∀ y ∈ (msets S.length k)[i].map fun x => S.getD x.toNat 0, ∃ m : Nat, y = m ∧ m < 256 := fun y hy => by
      obtain ⟨z, hz, rfl⟩ := List.mem_map.1 hy
      have := hMi.labs z hz
      have hz' : z.toNat < S.length := by omega
      simp only [List.getD_eq_getElem?_getD, List.getElem?_eq_getElem hz', Option.getD_some]
      exact hv _ (List.getElem_mem hz')
    have ha64 : ∀ y ∈ (msets S.length k)[i].map fun x => S.getD x.toNat 0, I64 y := fun y hy => by obtain ⟨m, rfl, hm⟩ := hab y hy; unfold I64; omega
    refine call (elChoice_ok (good := good) hab (by rw [List.length_map]; omega) _ (g := g) (ch := ⟨none, 0, 0⟩) (pre := []) (by simp; rfl) (((hg.ext hE1).ext hE2).ext hE3) (hA.rep ha64).any (D := fun _ => False) (nil_at w3 _)) ?_
    rintro r4 b w4 ⟨hE4, hm⟩
    have hb : b = p (msets S.length k)[i] := by
      have e1 : (((msets S.length k)[i].map fun x => S.getD x.toNat 0).drop ([] : List Int).length).map (fun x => labsOf x.toNat) = listsAt S (msets S.length k)[i] := by
        simp [listsAt]
      rw [e1] at hm
      show b = (prodL (listsAt S (msets S.length k)[i])).any fun c => decide (sortI c ∈ good)
      rw [← firstC_some]
      cases hG : firstC (fun c => decide (sortI c ∈ good)) (listsAt S (msets S.length k)[i]) [] with
      | some c => rw [hG] at hm; exact hm.1
      | none => rw [hG] at hm; exact hm
    have hE24 := hE3.trans hE4
    subst hb
    refine cond_b (fun ht => ?_) (fun hf => ?_)
    · refine RUN_lit1 (α := Sl) slt_rows row rfl (by decide) fun y w8 hE8 hO8 => ?_
      have hE28 := hE24.trans hE8
      have hO28 := hO.ext hE28
      have hz2 := hE2.size_le
      have hz8 := hE28.size_le
      have hfl2 : (((msets S.length k).take i).filter p).length ≤ i := Nat.le_trans (List.length_filter_le _ _) (by rw [List.length_take]; omega)
      refine RUN_append_rowG slt_rows (by decide) hO28 (by omega) (hOr.ext hE28) hO8 (by omega) (by unfold maxLen; omega) fun s' w9 hO9 hs9 hn9 => ?_
      refine IN2_next hR.le hi' ⟨hs9.ext0 (hE2.trans hE28) fun b hb => hob b hb, ?_, fun b hb => ?_⟩
      · rw [filter_take_succ hi', if_pos ht]
        exact hO9
      · rcases hn9 with h1 | h1
        · exact hob b (by unfold oB at hb ⊢; rw [← h1]; exact hb)
        · have := h1 b hb; omega
    · refine IN2_next hR.le hi' ⟨hE2.trans hE24, ?_, hob⟩
      rw [filter_take_succ hi', hf]
      simpa using hO.ext hE24
  · have : i = (msets S.length k).length := by omega
    subst this
    rw [List.take_length] at hO
    exact ⟨hE1.trans hE2, hO⟩

end Go.Proofs.YtaeledhbkdakcaaGreatDoor
end

section
/- The edge step: the program. -/
namespace Go.Proofs.YtaeledhbkdakcaaGreatDoor
open Go.GX Go.RowKit
set_option maxRecDepth 100000

theorem byte_sets {L : List (List Int)} {S : List Int} (hS : S = setsOf L) : ∀ x ∈ S, ∃ m : Nat, x = m ∧ m < 256 := fun x hx => setsOf_byte (by rw [← hS]; exact hx)

def edFew (p : Prob) : Prop := 1 ≤ (edgeSets p).length ∧ (edgeSets p).length ≤ 8
def ndFew (p : Prob) : Prop := ¬ (p.degree = 4 ∧ 6 < p.labels) ∧ 1 ≤ (nodeSets p).length ∧ (nodeSets p).length ≤ 8

theorem edgeStep1_ok {w w' : World} {c d s t : Sl} {p : Prob} {pp ps : Addr} {t0 t1 : TypeId} {S l : List Int} {k : Nat} (h : RProb w c d p) (hs : SmallP p) (hg : PGood p) (hbp : Box w pp t0 [.int .i64 p.labels, .int .i64 p.degree, c.v, d.v]) (hbs : Box w ps t1 [s.v]) (hS : R w s S) (hv : ∀ x ∈ S, ∃ m : Nat, x = m ∧ m < 256)
    (hk : k ≤ 4) (_ : k = 4 ∨ 4 = 4) (hM : InM S.length k l) (hE : Ext w w') (hl : R w' t l) :
    CALLV Tryz.prog (.func (.func F.i_edgeStep_1) #[] #[.pointer (some pp), .pointer (some ps)]) #[t.v] w' (Ret [.at .bool] fun (b : Bool) w'' => b = (prodL (listsAt S l)).any (nodeB p) ∧ Ext w' w'') := by
  refine CALLV_mk (by kernel_rfl) (C_i_edgeStep_1 ?_)
  unfold V_i_edgeStep_1
  intro w1 hE1 _
  replace h := h.ext hE
  replace hbp := hbp.ext hE
  replace hbs := hbs.ext hE
  replace hS := hS.ext hE
  replace h := h.ext hE1
  replace hbp := hbp.ext hE1
  replace hbs := hbs.ext hE1
  replace hS := hS.ext hE1
  replace hl := hl.ext hE1
  have hlen := hM.len
  refine LD_iiss hbp (LD_bs hbs ⟨Ext.refl _, ?_⟩)
  refine call (listsOf_ok hS hl hv hM.labs (by omega)) ?_
  rintro r w2 ⟨hE2, ss, hR⟩
  refine ⟨hE2, ?_⟩
  have h64 : ∀ r ∈ listsAt S l, ∀ x ∈ r, I64 x := fun r hr x hx => by
    obtain ⟨y, _, rfl⟩ := List.mem_map.1 hr
    exact labsOf_I64 _ x hx
  have hll : (listsAt S l).length = k := by unfold listsAt; rw [List.length_map, hlen]
  refine call (nodeChoice_ok (h.ext hE2) hs hg (hR.rep h64) (by omega)) ?_
  rintro e b w3 ⟨hE3, hm⟩
  have hE13 := hE2.trans hE3
  refine ⟨hE13, hE13, hE13, ?_, hE1.trans hE13⟩
  rw [← firstC_some]
  cases hG : firstC (nodeB p) (listsAt S l) [] with
  | some c => rw [hG] at hm; exact hm.1
  | none => rw [hG] at hm; exact hm


theorem nodeStep1_ok {w w' : World} {c d s t : Sl} {p : Prob} {pp ps : Addr} {t0 t1 : TypeId} {S l : List Int} {k : Nat} (h : RProb w c d p) (hs : SmallP p) (hg : PGood p) (hbp : Box w pp t0 [.int .i64 p.labels, .int .i64 p.degree, c.v, d.v]) (hbs : Box w ps t1 [s.v]) (hS : R w s S) (hv : ∀ x ∈ S, ∃ m : Nat, x = m ∧ m < 256)
    (hk : k ≤ 4) (_ : k = 2 ∨ 2 = 4) (hM : InM S.length k l) (hE : Ext w w') (hl : R w' t l) :
    CALLV Tryz.prog (.func (.func F.i_nodeStep_1) #[] #[.pointer (some pp), .pointer (some ps)]) #[t.v] w' (Ret [.at .bool] fun (b : Bool) w'' => b = (prodL (listsAt S l)).any (nodeB2 p) ∧ Ext w' w'') := by
  refine CALLV_mk (by kernel_rfl) (C_i_nodeStep_1 ?_)
  unfold V_i_nodeStep_1
  intro w1 hE1 _
  replace h := h.ext hE
  replace hbp := hbp.ext hE
  replace hbs := hbs.ext hE
  replace hS := hS.ext hE
  replace h := h.ext hE1
  replace hbp := hbp.ext hE1
  replace hbs := hbs.ext hE1
  replace hS := hS.ext hE1
  replace hl := hl.ext hE1
  have hlen := hM.len
  refine LD_iiss hbp (LD_bs hbs ⟨Ext.refl _, ?_⟩)
  refine call (listsOf_ok hS hl hv hM.labs (by omega)) ?_
  rintro r w2 ⟨hE2, ss, hR⟩
  refine ⟨hE2, ?_⟩
  have h64 : ∀ r ∈ listsAt S l, ∀ x ∈ r, I64 x := fun r hr x hx => by
    obtain ⟨y, _, rfl⟩ := List.mem_map.1 hr
    exact labsOf_I64 _ x hx
  have hll : (listsAt S l).length = k := by unfold listsAt; rw [List.length_map, hlen]
  refine call (edgeChoice_ok (h.ext hE2) hs hg (hR.rep h64) (by omega)) ?_
  rintro e b w3 ⟨hE3, hm⟩
  have hE13 := hE2.trans hE3
  refine ⟨hE13, hE13, hE13, ?_, hE1.trans hE13⟩
  rw [← firstC_some]
  cases hG : firstC (nodeB2 p) (listsAt S l) [] with
  | some c => rw [hG] at hm; exact hm.1
  | none => rw [hG] at hm; exact hm


theorem edgeStep_ok {w : World} {c d : Sl} {p : Prob} (h : RProb w c d p) (hs : SmallP p) (hg : PGood p) :
    Calls Tryz.prog F.i_edgeStep #[.agg #[.int .i64 p.labels, .int .i64 p.degree, c.v, d.v]] w (Ret [.agg [.int .i64, .int .i64, .sl, .sl], .at .sl, .at .bool] (StIs w (edgeP p) (edFew p) (edgeSets p))) := by
  refine C_i_edgeStep ?_
  unfold V_i_edgeStep
  refine NEW_intro fun pp w1 hp1 hs1 hE1 hb1 => NEW_intro fun px w2 hp2 hs2 hE2 hb2 => ?_
  have hE := hE1.trans hE2
  replace h := h.ext hE
  replace hb1 := hb1.ext hE2
  have hlab := hg.lab
  have htwo := two_lab hg
  have h64e : ∀ r ∈ edgeFull p, ∀ x ∈ r, I64 x := fun r hr x hx => by obtain ⟨m, rfl, hm⟩ := edge_byte hg r hr x hx; unfold I64; omega
  refine ⟨fun (out : Sl) (x : Int) w' => ∃ m : Nat, x = m ∧ 1 ≤ m ∧ m ≤ 2 ^ p.labels.toNat ∧ Ext w2 w' ∧ ∃ ss, RowsD w' w2.heap.size T.t_int T.t_sl_int out (((List.range m).filter (edF p)).map (edG p)) ss, fun _ x _ => 2 ^ p.labels.toNat - x.toNat,
    ⟨1, rfl, by omega, Nat.one_le_two_pow, Ext.refl _, [], by
      have : ((List.range 1).filter (edF p)).map (edG p) = [] := by simp [List.range_succ, edF]
      rw [this]; exact RowsD.nil _ _ _ _⟩, ?_⟩
  rintro out _ w3 ⟨m, rfl, hm1, hm, hE3, ss, hR⟩
  intros
  replace h := h.ext hE3
  replace hb1 := hb1.ext hE3
  replace hb2 := hb2.ext hE3
  have hz2 := hE.size_le
  have hz3 := hE3.size_le
  refine LD_bi0 hb1 ⟨by omega, ?_⟩
  have en : p.labels = ((p.labels.toNat : Nat) : Int) := by omega
  rw [en, shl_one (by omega), Int.toNat_natCast]
  refine cond_dec (fun hlt => ?_) (fun hge => ?_)
  · have hlt' : m < 2 ^ p.labels.toNat := by omega
    have hlen : (((List.range m).filter (edF p)).map (edG p)).length ≤ m := by
      rw [List.length_map]
      have h1 := List.length_filter_le (edF p) (List.range m)
      rwa [List.length_range] at h1
    have hnext : ∀ {w'}, Ext w3 w' → edF p m = false → (∃ m' : Nat, IntKind.i64.wrap ((m : Int) + 1) = m' ∧ 1 ≤ m' ∧ m' ≤ 2 ^ p.labels.toNat ∧ Ext w2 w' ∧ ∃ ss, RowsD w' w2.heap.size T.t_int T.t_sl_int out (((List.range m').filter (edF p)).map (edG p)) ss) ∧ 2 ^ p.labels.toNat - (IntKind.i64.wrap ((m : Int) + 1)).toNat < 2 ^ p.labels.toNat - ((m : Int)).toNat := fun {w'} hE' hf => by
      rw [wrap_of (by omega) (by omega)]
      refine ⟨⟨m + 1, by omega, by omega, hlt', hE3.trans hE', ss, ?_⟩, by omega⟩
      rw [List.range_succ, List.filter_append, List.map_append]
      simpa [hf] using hR.ext hE'
    refine LD_iiss hb1 ?_
    refine call (beside_ok h hs hg (by omega)) ?_
    rintro _ w4 ⟨rfl, hE4⟩
    refine cond_ne (fun hne => LD_iiss (hb1.ext hE4) ?_) (fun h0 => hnext hE4 (by
      have : ((near p m : Nat) : Int) = 0 := h0
      have h1 : near p m = 0 := by omega
      simp [edF, h1]))
    refine call (beside_ok (h.ext hE4) hs hg (near_lt hg m)) ?_
    rintro _ w5 ⟨rfl, hE5⟩
    have hE35 := hE4.trans hE5
    refine cond_eq (fun heq => ?_) (fun hneq => hnext hE35 (by
      have h1 : near p (near p m) ≠ m := fun h => hneq (by rw [h])
      simp [edF, h1]))
    have hF : edF p m = true := by
      have h1 : near p (near p m) = m := by have : ((near p (near p m) : Nat) : Int) = m := heq; omega
      have h2 : near p m ≠ 0 := fun h => hne (by rw [h]; rfl)
      simp [edF, h1, h2, hm1]
    have hb64 : ∀ x ∈ edG p m, I64 x := fun x hx => by
      have := near_lt hg m
      unfold edG at hx
      rcases List.mem_cons.1 hx with rfl | hx
      · unfold I64; omega
      · rw [List.mem_singleton.1 hx]; unfold I64; omega
    refine RUN_lits slt_int (edG p m) (by simp [edG]) (by simp [edG]) rfl rfl fun x w6 hE6 hO6 => ?_
    have hz5 := hE35.size_le
    refine RUN_lit1 (α := Sl) slt_rows x rfl (by decide) fun y w7 hE7 hO7 => ?_
    have hE37 := (hE35.trans hE6).trans hE7
    have hR7 := hR.ext hE37
    have hz7 := hE37.size_le
    refine RUN_append_rowD slt_rows (by decide) hR7 (by omega) ((hO6.ext hE7).low (by omega)) ((hR.ext hE35).fresh (hO6.ext hE7) (Nat.le_refl _)) hO7 (by omega) (by unfold maxLen; omega) fun s' w8 hR8 hs8 => ?_
    rw [wrap_of (by omega) (by omega)]
    refine ⟨⟨m + 1, by omega, by omega, hlt', hs8.ext0 (hE3.trans hE37) fun k hk => (hR7.own.blk k hk).1, ss ++ [x], ?_⟩, by simp only []; omega⟩
    rw [List.range_succ, List.filter_append, List.map_append]
    simpa [hF] using hR8
  · have : m = 2 ^ p.labels.toNat := by omega
    subst this
    rw [← edgeFull_eq] at hR
    have hel := edge_len hg
    refine call (newLabels_ok (k := 2) (hR.rep h64e) (edge_byte hg) edge_two (by omega) (by omega)) ?_
    rintro a b w4 ⟨hE4, hOa, tt, hRb⟩
    replace h := h.ext hE4
    replace hb1 := hb1.ext hE4
    replace hb2 := hb2.ext hE4
    refine NEW_ST (zs := [.slice none 0 0]) (one1s a) rfl fun ps w5 hps hE5 hb5 => ?_
    replace h := h.ext hE5
    replace hb1 := hb1.ext hE5
    replace hb2 := hb2.ext hE5
    replace hOa := hOa.ext hE5
    replace hRb := hRb.ext hE5
    have hSv : ∀ x ∈ setsOf (edgeFull p), ∃ m : Nat, x = m ∧ m < 256 := byte_sets rfl
    have hS64 : ∀ y ∈ setsOf (edgeFull p), I64 y := fun y hy => by obtain ⟨m, rfl, hm⟩ := setsOf_byte hy; unfold I64; omega
    have hE25 := (hE3.trans hE4).trans hE5
    have hE05 := hE.trans hE25
    have haL : a.len = (setsOf (edgeFull p)).length := hOa.1
    refine LD_bs hb5 ?_
    refine call (within_ok _ _ _ _) ?_
    rintro _ _ ⟨rfl, rfl⟩
    rw [haL]
    refine cond_not (fun hf => ?_) (fun ht => LD_bs hb5 (LD_bi1 hb1 ?_))
    · refine ST_all hb2 (one4p 0 0 ⟨none, 0, 0⟩ ⟨none, 0, 0⟩) rfl fun w6 hs6 hz6 hb6 => ?_
      refine LD_iiss (z := ⟨none, 0, 0⟩) (u := ⟨none, 0, 0⟩) hb6 ⟨hs6.ext0 hE05 fun k hk => by cases hk; have := hE1.size_le; omega, .inr ⟨rfl, fun hfew => ?_⟩⟩
      exact inR_false hf ⟨by have := hfew.1; unfold edgeSets at this; omega, by have := hfew.2; unfold edgeSets at this; omega⟩
    · have hr := inR_true ht
      have hfew : edFew p := ⟨by unfold edgeSets; omega, by unfold edgeSets; omega⟩
      have hd := hg.deg
      have ek : p.degree = ((p.degree.toNat : Nat) : Int) := by omega
      rw [haL, ek]
      refine call (allowedBy_ok (p := fun l => (prodL (listsAt (setsOf (edgeFull p)) l)).any (nodeB p)) (by omega) (by omega) (pow_small8 (by omega) (by omega)) fun l hM w' t hE' hl => edgeStep1_ok h hs hg hb1 hb5 (hOa.rep hS64).any hSv (by omega) (.inr rfl) hM hE' hl) ?_
      rintro z w6 ⟨hE6, ssz, hz⟩
      intro w7 hE7 _
      have hE67 := hE6.trans hE7
      replace hb1 := hb1.ext hE67
      replace hb2 := hb2.ext hE67
      replace hb5 := hb5.ext hE67
      replace hOa := hOa.ext hE67
      replace hRb := hRb.ext hE67
      have hlt2 := hb2.lt
      have hpp : pp.block ≠ px.block := by omega
      have hpsb : ps.block ≠ px.block := by have := hE4.size_le; have := hE25.size_le; omega
      refine ⟨fun b => b = px.block, hpsb, LD_bs hb5 ⟨by rw [add_block]; exact hpp, LD_bi1 hb1 ⟨hpsb, LD_bs hb5 ?_⟩⟩⟩
      rw [haL]
      refine ST_all hb2 (one4p _ _ _ _) rfl fun w8 hs8 hz8 hb8 => ⟨.of_step hs8 fun k hk => by cases hk; rfl, LD_iiss hb8 ?_⟩
      have hz5 := hE25.size_le
      have hkeep : ∀ k, w2.heap.size ≤ k → k < w7.heap.size → w8.heap[k]? = w7.heap[k]? := fun k h1 h2 => hs8.block k h2 (by intro he; cases he; omega)
      have hmade : PGood (edgeP p) := (EdAsked.mk hg hfew).made
      have hE57 : Ext w7 w7 := Ext.refl _
      refine ⟨hs8.ext0 (hE05.trans hE67) fun k hk => by cases hk; have := hE1.size_le; omega, .inl ⟨rfl, hfew, rfl, rfl, NewP.low (base := w2.heap.size) ⟨?_, ?_, ?_, ?_, ?_⟩ hE.size_le⟩⟩
      · show I64 (((edgeSets p).length : Nat) : Int); unfold I64 edgeSets; omega
      · show I64 p.degree; unfold I64; omega
      · refine (((hz.ext hE7).low (b := w2.heap.size) (by omega)).keep hkeep).own2.repD (conf_I64 hmade.nodes hmade.lab.2)
      · refine ((hRb.low (b := w2.heap.size) (by have := hE3.size_le; omega)).keep hkeep).own2.repD (conf_I64 hmade.edges hmade.lab.2)
      · exact (((hOa.low (base' := w2.heap.size) (by have := hE3.size_le; omega)).keep fun k hk => hkeep k (by have := (hOa.blk k hk).1; omega) (hOa.blk k hk).2).rep hS64)

end Go.Proofs.YtaeledhbkdakcaaGreatDoor
end

section
/- Lists that are inserted, problems of sets, the edge step: the reference. -/
namespace Go.Proofs.YtaeledhbkdakcaaGreatDoor
open Go.GX Go.RowKit
set_option maxRecDepth 100000

/-- Slices that read as lists, in blocks from a number on. -/
def Al (w : World) (base : Nat) (ss : List Sl) (L : List (List Int)) : Prop := ss.length = L.length ∧ ∀ i (h1 : i < ss.length) (h2 : i < L.length), SlR (fun b => base ≤ b) w ss[i] L[i]

theorem Al.ext {w w' : World} {base : Nat} {ss : List Sl} {L : List (List Int)} (h : Al w base ss L) (hE : Ext w w') : Al w' base ss L := ⟨h.1, fun i h1 h2 => (h.2 i h1 h2).ext hE⟩
theorem Al.keep {w w' : World} {base : Nat} {ss : List Sl} {L : List (List Int)} (h : Al w base ss L) {g : Option Nat} (hs : Step w w' g) (hg : ∀ k, g = some k → k < base) : Al w' base ss L := ⟨h.1, fun i h1 h2 => (h.2 i h1 h2).stepD hs fun b hb he => by have := hg b he; omega⟩

theorem al_insert {w : World} {base : Nat} {ss : List Sl} {L : List (List Int)} {x : Sl} {xl : List Int} (h : Al w base ss L) (hx : SlR (fun b => base ≤ b) w x xl) {k : Nat} (hk : k ≤ L.length) : Al w base (ss.take k ++ [x] ++ ss.drop k) (L.take k ++ [xl] ++ L.drop k) := by
  have hl := h.1
  refine ⟨by simp; omega, fun i h1 h2 => ?_⟩
  simp only [List.length_append, List.length_take, List.length_cons, List.length_nil, List.length_drop] at h1 h2
  simp only [List.append_assoc, List.singleton_append]
  by_cases h3 : i < k
  · rw [List.getElem_append_left (by simp; omega), List.getElem_append_left (by simp; omega)]
    simp only [List.getElem_take]
    exact h.2 i (by omega) (by omega)
  · rw [List.getElem_append_right (by simp; omega), List.getElem_append_right (by simp; omega)]
    simp only [List.length_take, Nat.min_eq_left hk, Nat.min_eq_left (show k ≤ ss.length by omega)]
    by_cases h4 : i = k
    · subst h4
      simp only [Nat.sub_self, List.getElem_cons_zero]
      exact hx
    · obtain ⟨j, hj⟩ : ∃ j, i - k = j + 1 := ⟨i - k - 1, by omega⟩
      simp only [hj, List.getElem_cons_succ, List.getElem_drop]
      exact h.2 (k + j) (by omega) (by omega)

theorem insert_rise {L : List (List Int)} {x : List Int} (hr : L.Pairwise fun a b => cmpL a b < 0) {k : Nat} (hk : k ≤ L.length) (hlt : ∀ j (hj : j < L.length), j < k → cmpL L[j] x < 0) (hge : ∀ h : k < L.length, cmpL x L[k] < 0) : (L.take k ++ [x] ++ L.drop k).Pairwise fun a b => cmpL a b < 0 := by
  have hx : ∀ y ∈ L.drop k, cmpL x y < 0 := fun y hy => by
    obtain ⟨j, hj, rfl⟩ := List.mem_iff_getElem.1 hy
    simp only [List.length_drop] at hj
    rw [List.getElem_drop]
    have h1 := hge (by omega)
    by_cases h0 : j = 0
    · subst h0; simpa using h1
    · exact cmpL_trans h1 (List.pairwise_iff_getElem.1 hr k (k + j) (by omega) (by omega) (by omega))
  have ht : ∀ y ∈ L.take k, cmpL y x < 0 := fun y hy => by
    obtain ⟨j, hj, rfl⟩ := List.mem_take_iff_getElem.1 hy
    exact hlt j (by omega) (by omega)
  have hL : (L.take k ++ L.drop k).Pairwise fun a b => cmpL a b < 0 := by rw [List.take_append_drop]; exact hr
  rw [List.pairwise_append] at hL
  rw [List.append_assoc, List.pairwise_append]
  refine ⟨hL.1, ?_, fun a ha b hb => ?_⟩
  · rw [List.singleton_append, List.pairwise_cons]
    exact ⟨hx, hL.2.1⟩
  · rcases List.mem_append.1 hb with h1 | h1
    · rw [List.mem_singleton.1 h1]; exact ht a ha
    · exact hL.2.2 a ha b h1

theorem insert_mem {L : List (List Int)} {x y : List Int} {k : Nat} : y ∈ L.take k ++ [x] ++ L.drop k ↔ y ∈ L ∨ y = x := by
  have h1 : y ∈ L ↔ y ∈ L.take k ∨ y ∈ L.drop k := by
    conv => lhs; rw [← List.take_append_drop k L]
    exact List.mem_append
  rw [List.mem_append, List.mem_append, List.mem_singleton, h1]
  constructor
  · rintro ((h | h) | h)
    · exact .inl (.inl h)
    · exact .inr h
    · exact .inl (.inr h)
  · rintro ((h | h) | h)
    · exact .inl (.inl h)
    · exact .inr h
    · exact .inl (.inr h)

theorem all_succ2 {L : List (List Int)} {xl : List Int} {k : Nat} (h : ∀ j (hj : j < L.length), j < k → cmpL L[j] xl < 0) (hk : k < L.length) (hx : cmpL L[k] xl < 0) : ∀ j (hj : j < L.length), j < k + 1 → cmpL L[j] xl < 0 := fun j hj hjk => by
  by_cases he : j = k
  · subst he; exact hx
  · exact h j hj (by omega)

/-- What inserting makes of a list. -/
def Ins (w : World) (base : Nat) (L : List (List Int)) (xl : List Int) (r : Sl) (w' : World) : Prop :=
  Ext w w' ∧ ∃ ss' L', OwnL w' base T.t_sl_int r ss' ∧ Al w' base ss' L' ∧ (L'.Pairwise fun a b => cmpL a b < 0) ∧ (∀ y, y ∈ L' ↔ y ∈ L ∨ y = xl) ∧ L'.length ≤ L.length + 1

theorem prInsert_ok {w : World} {base : Nat} {s x : Sl} {ss : List Sl} {L : List (List Int)} {xl : List Int} {c : Int} (h : OwnL w base T.t_sl_int s ss) (ha : Al w base ss L) (hx : SlR (fun b => base ≤ b) w x xl) (hr : L.Pairwise fun a b => cmpL a b < 0)
    (hL : ∀ r ∈ L, r.length = xl.length ∧ AllIn r 0 c) (hxc : AllIn xl 0 c) (hc : c ≤ 1000) (hl : L.length ≤ 1000000) (hb : base ≤ w.heap.size) :
    Calls Tryz.prog F.s_prInsert #[s.v, x.v] w (Ret [.at .sl] (Ins w base L xl)) := by
  refine C_s_prInsert ?_
  unfold V_s_prInsert
  have hls := ha.1
  have hR : R w s L := h.rows ha.1 (fun i h1 h2 => (ha.2 i h1 h2).any) (fun _ _ => trivial)
  have hS : R w s ss := (h.rep fun _ _ => trivial).any
  have k4 : ∀ {w1 : World} (k : Nat), Ext w w1 → k ≤ L.length → (∀ j (hj : j < L.length), j < k → cmpL L[j] xl < 0) → (∀ hk : k < L.length, cmpL xl L[k] < 0) → V_s_prInsert_k4 s x (Ins w base L xl) (k : Int) w1 := fun {w1} k hE1 hk hlt hge => by
    unfold V_s_prInsert_k4
    refine RUN_lit0 (α := Sl) slt_rows fun e w2 hE2 hO2 => ?_
    have hE12 := hE1.trans hE2
    refine SlR.take (hS.ext hE12) (i := k) (by omega) rfl fun s1 hs1 => ?_
    have hz := hE12.size_le
    have hz1 := hE1.size_le
    have hz2 := hE2.size_le
    have hh1 : (ss.take k).length ≤ k := by rw [List.length_take]; omega
    refine RUN_append (α := Sl) slt_rows hO2 (by omega) hs1.any (by simp; omega) (by simp [maxLen]; omega) fun a w3 hO3 hs3 => ?_
    have hE3 : Ext w1 w3 := hs3.ext0 hE2 fun k hk => (hO2.blk k hk).1
    refine RUN_lit1 (α := Sl) slt_rows x rfl (by decide) fun y w4 hE4 hO4 => ?_
    have hE14 := hE3.trans hE4
    have hz4 := hE14.size_le
    refine RUN_append (α := Sl) slt_rows (hO3.ext hE4) (by omega) (hO4.rep fun _ _ => trivial).any (by simp; omega) (by simp [maxLen]; omega) fun a2 w5 hO5 hs5 => ?_
    have hE5 : Ext w1 w5 := hs5.ext0 hE14 fun k hk => ((hO3.ext hE4).blk k hk).1
    have hz5 := hE5.size_le
    refine slr_drop (hS.ext (hE1.trans hE5)) (i := k) (by omega) rfl fun s2 hs2 => ?_
    refine RUN_append (α := Sl) slt_rows hO5 (by omega) hs2.any (by simp; omega) (by simp [maxLen]; omega) fun a3 w6 hO6 hs6 => ?_
    have hE6 : Ext w1 w6 := hs6.ext0 hE5 fun k hk => (hO5.blk k hk).1
    have hE06 := hE1.trans hE6
    refine ⟨hE06, ss.take k ++ [x] ++ ss.drop k, L.take k ++ [xl] ++ L.drop k, ?_, al_insert (ha.ext hE06) (hx.ext hE06) hk, insert_rise hr hk hlt hge, fun y => insert_mem, by simp; omega⟩
    have := hO6.low (base' := base) (by omega)
    simpa using this
  have hRl := hR.len
  rw [hRl]
  have k1 : ∀ {w1 : World} (k : Nat), Ext w w1 → k ≤ L.length → (∀ j (hj : j < L.length), j < k → cmpL L[j] xl < 0) → (∀ hk : k < L.length, ¬ cmpL L[k] xl < 0) → V_s_prInsert_k1 s x (Ins w base L xl) (k : Int) w1 := fun {w1} k hE1 hk hlt hge => by
    unfold V_s_prInsert_k1
    rw [hRl]
    refine cond_dec (fun hlt2 => ?_) (fun hge2 => k4 k hE1 hk hlt fun h => absurd h (by omega))
    have hk' : k < L.length := by omega
    refine (hR.ext hE1).ixL hk' fun q r hRr hc => LD_sl hc ?_
    refine call (l1Same_ok hRr.any (hx.any.ext hE1)) ?_
    rintro _ w2 ⟨rfl, hE2⟩
    have hE02 := hE1.trans hE2
    refine cond_dec (fun heq => ?_) (fun hne => k4 k hE02 hk hlt fun _ => ?_)
    · refine ⟨hE02, ss, L, h.ext hE02, ha.ext hE02, hr, fun y => ⟨fun hy => .inl hy, ?_⟩, by omega⟩
      rintro (hy | rfl)
      · exact hy
      · rw [← heq]; exact List.getElem_mem hk'
    · have h1 := hge hk'
      have h2 := cmpL_neg L[k] xl
      rcases Int.lt_or_eq_of_le (show cmpL xl L[k] ≤ 0 by omega) with h3 | h3
      · exact h3
      · exact absurd (cmpL_zero.1 h3).symm hne
  refine ⟨IN L.length fun k w' => Ext w w' ∧ ∀ j (hj : j < L.length), j < k → cmpL L[j] xl < 0, MN L.length, IN_zero ⟨Ext.refl _, fun j _ h0 => absurd h0 (by omega)⟩, ?_⟩
  rintro _ w1 ⟨k, rfl, hk, hE1, hI⟩
  intros
  refine cond_dec (fun hlt => ?_) (fun hge => k1 k hE1 hk hI fun h => absurd h (by omega))
  have hk' : k < L.length := by omega
  have hLk := hL _ (List.getElem_mem hk')
  refine (hR.ext hE1).ixL hk' fun q r hRr hcell => LD_sl hcell ?_
  refine call (prOrder_ok hRr.any (hx.any.ext hE1) hLk.1 hc hLk.2 hxc) ?_
  rintro _ _ ⟨rfl, rfl⟩
  refine cond_dec (fun hlt2 => ?_) (fun hge2 => k1 k hE1 hk hI fun _ => hge2)
  exact IN_next hR.le hk' ⟨hE1, all_succ2 hI hk' hlt2⟩

/-! ### Problems of sets -/

theorem rise_byte_len {m : List Int} (hr : m.Pairwise (· < ·)) (hb : ∀ x ∈ m, ∃ k : Nat, x = k ∧ k < 256) : m.length ≤ 256 := by
  have hB : Byte [m] := fun l hl x hx => by rw [List.mem_singleton.1 hl] at hx; exact hb x hx
  have : m = setsOf [m] := setsOf_eq hB hr fun x => by simp
  rw [this]
  exact setsOf_len _

def madeP (p : Prob) (e : Bool) (L : List (List Int)) (k : Nat) : Prob :=
  bif e then ⟨((setsOf L).length : Nat), p.degree, someOf (nodeB p) (setsOf L) p.degree.toNat, ownOf L k⟩ else ⟨((setsOf L).length : Nat), p.degree, ownOf L k, someOf (nodeB2 p) (setsOf L) 2⟩

theorem own_I64 {n k : Nat} (hn : n ≤ 256) (f : List Int → Bool) : ∀ r ∈ (msets n k).filter f, ∀ x ∈ r, I64 x := fun r hr x hx => by
  have := (mem_msets.1 (List.mem_filter.1 hr).1).labs x hx
  unfold I64; omega

theorem elMade_ok {w : World} {c d s : Sl} {p : Prob} {L : List (List Int)} {k : Nat} (e : Bool) (h : RProb w c d p) (hg : PGood p) (hL : R w s L) (hB : Byte L) (hk : ∀ r ∈ L, r.length = k) (hk4 : k ≤ 4) (hl : L.length ≤ 262144) :
    Calls Tryz.prog F.s_elMade #[.agg #[.int .i64 p.labels, .int .i64 p.degree, c.v, d.v], s.v, .bool e] w (Ret [.agg [.int .i64, .int .i64, .sl, .sl], .at .sl, .at .bool] (StIs w (madeP p e L k) (1 ≤ (setsOf L).length ∧ (setsOf L).length ≤ 8) (setsOf L))) := by
  refine C_s_elMade ?_
  unfold V_s_elMade
  refine NEW_intro fun pp w1 hp1 hs1 hE1 hb1 => NEW_intro fun px w2 hp2 hs2 hE2 hb2 => ?_
  have hE := hE1.trans hE2
  replace h := h.ext hE
  replace hL := hL.ext hE
  replace hb1 := hb1.ext hE2
  have h64 := flat_okII hL
  have hzE := hE.size_le
  have hd := hg.deg
  rw [hL.len]
  let D : Nat → Prop := fun b => w2.heap.size ≤ b
  refine ⟨IN2 L.length fun i (x : Sl) w' => Ext w2 w' ∧ ∃ m, SlR D w' x m ∧ m.Pairwise (· < ·) ∧ ∀ y, y ∈ m ↔ ∃ l ∈ L.take i, y ∈ l, MN2 L.length, IN2_zero ⟨Ext.refl _, [], (OwnL.nil w2 w2.heap.size T.t_int).rep (by simp), List.Pairwise.nil, by simp⟩, ?_⟩
  rintro x _ w3 ⟨i, rfl, hi, hE3, m, hm, hmr, hmm⟩
  intros
  refine cond_dec (fun hlt => ?_) (fun hge => ?_)
  · have hi' : i < L.length := by omega
    refine (hL.ext hE3).ixL hi' fun q row hrow hc => LD_sl hc ?_
    rw [hrow.len]
    refine ⟨IN2 L[i].length fun j (x : Sl) w' => Ext w3 w' ∧ ∃ m, SlR D w' x m ∧ m.Pairwise (· < ·) ∧ ∀ y, y ∈ m ↔ (∃ l ∈ L.take i, y ∈ l) ∨ y ∈ L[i].take j, MN2 L[i].length, IN2_zero ⟨Ext.refl _, m, hm, hmr, by simpa using hmm⟩, ?_⟩
    rintro x' _ w4 ⟨j, rfl, hj, hE4, m', hm', hmr', hmm'⟩
    intros
    refine cond_dec (fun hlt2 => ?_) (fun hge2 => ?_)
    · have hj' : j < L[i].length := by omega
      refine (hrow.ext hE4).ixI hj' fun q _ hc => LD_int hc ?_
      have hbm : ∀ y ∈ m', ∃ k : Nat, y = k ∧ k < 256 := fun y hy => by
        rcases (hmm' y).1 hy with ⟨l, hl1, hl2⟩ | h1
        · exact hB l (List.mem_of_mem_take hl1) y hl2
        · exact hB _ (List.getElem_mem hi') y (List.mem_of_mem_take h1)
      have hml := rise_byte_len hmr' hbm
      refine call (l1Put_D hm' (by omega) hmr' (h64 _ (List.getElem_mem hi') _ (List.getElem_mem hj'))) ?_
      rintro r w5 ⟨hE5, m5, hm5, hmr5, hmm5, _⟩
      have hz4 := (hE3.trans hE4).size_le
      refine IN2_next hrow.le hj' ⟨hE4.trans hE5, m5, hm5.weak (fun b hb _ => ?_) RepP.pos, hmr5, fun y => ?_⟩
      · show w2.heap.size ≤ b
        rcases hb with h1 | h1
        · exact h1
        · omega
      · rw [hmm5, hmm', List.take_succ_eq_append_getElem hj', List.mem_append, List.mem_singleton, or_assoc]
    · have : j = L[i].length := by omega
      subst this
      rw [List.take_length] at hmm'
      refine IN2_next hL.le hi' ⟨hE3.trans hE4, m', hm', hmr', fun y => ?_⟩
      rw [hmm', List.take_succ_eq_append_getElem hi']
      simp only [List.mem_append, List.mem_singleton]
      constructor
      · rintro (⟨l, h1, h2⟩ | h1)
        · exact ⟨l, .inl h1, h2⟩
        · exact ⟨_, .inr rfl, h1⟩
      · rintro ⟨l, h1 | rfl, h2⟩
        · exact .inl ⟨l, h1, h2⟩
        · exact .inr h2
  · have : i = L.length := by omega
    subst this
    rw [List.take_length] at hmm
    have hme : m = setsOf L := setsOf_eq hB hmr hmm
    subst hme
    clear hmm
    have hSv : ∀ x ∈ setsOf L, ∃ m : Nat, x = m ∧ m < 256 := byte_sets rfl
    have hSr := setsOf_rise L
    have hSl := setsOf_len L
    have hn64 : ∀ r ∈ L.map (numsOf (setsOf L)), ∀ y ∈ r, I64 y := fun r hr y hy => by
      have := (nums_inM hB hk r hr).labs y hy
      unfold I64; omega
    have hlt2 := hb2.lt
    refine call (l1In_ok _ _ _ _) ?_
    rintro _ _ ⟨rfl, rfl⟩
    rw [hm.len]
    have hz3 := hE3.size_le
    refine cond_not (fun hf => ?_) (fun ht => LD_bi1 (hb1.ext hE3) ?_)
    · refine ST_all (hb2.ext hE3) (one4p 0 0 ⟨none, 0, 0⟩ ⟨none, 0, 0⟩) rfl fun w6 hs6 hz6 hb6 => ?_
      refine LD_iiss (z := ⟨none, 0, 0⟩) (u := ⟨none, 0, 0⟩) hb6 ⟨hs6.ext0 (hE.trans hE3) fun k hk => by cases hk; have := hE1.size_le; omega, .inr ⟨rfl, fun hfew => ?_⟩⟩
      exact inR_false hf ⟨by omega, by omega⟩
    · have hfew := inR_true ht
      refine NEW_ST (one4p (((setsOf L).length : Nat) : Int) p.degree ⟨none, 0, 0⟩ ⟨none, 0, 0⟩) rfl fun pm w9 hpm hE9 hb9 => ?_
      have hlt9 := hb9.lt
      have hE29 := hE3.trans hE9
      have hz9 := hE29.size_le
      have hS9 := (hm.ext hE9).any
      have hL9 := (hL.ext hE29)
      refine ⟨IN2 L.length fun i (x : Sl) w' => Ext w9 w' ∧ ∃ ss' L', OwnL w' w9.heap.size T.t_sl_int x ss' ∧ Al w' w9.heap.size ss' L' ∧ (L'.Pairwise fun a b => cmpL a b < 0) ∧ (∀ y, y ∈ L' ↔ y ∈ (L.take i).map (numsOf (setsOf L))) ∧ L'.length ≤ i, MN2 L.length,
        IN2_zero ⟨Ext.refl _, [], [], OwnL.nil _ _ _, ⟨rfl, fun i h1 => absurd h1 (by simp)⟩, List.Pairwise.nil, by simp, by simp⟩, ?_⟩
      rintro y _ w10 ⟨i, rfl, hi, hE10, ss', L', hO10, hA10, hr10, hm10, hl10⟩
      intros
      have hz10 := hE10.size_le
      refine cond_dec (fun hlt => ?_) (fun hge => ?_)
      · have hi' : i < L.length := by omega
        refine (hL9.ext hE10).ixL hi' fun q row hrow hc => LD_sl hc ?_
        have hrl := hk _ (List.getElem_mem hi')
        refine call (elNumbers_ok (hS9.ext hE10) hrow.any hSr (fun z hz => (mem_setsOf hB).2 ⟨_, List.getElem_mem hi', hz⟩) hSl (by omega)) ?_
        rintro u w11 ⟨hE11, hO11⟩
        have hin : numsOf (setsOf L) L[i] ∈ L.map (numsOf (setsOf L)) := List.mem_map.2 ⟨_, List.getElem_mem hi', rfl⟩
        have hMi := nums_inM hB hk _ hin
        have hu : SlR (fun b => w9.heap.size ≤ b) w11 u (numsOf (setsOf L) L[i]) := (hO11.rep (hn64 _ hin)).weak (fun b hb _ => Nat.le_trans hz10 hb) RepP.pos
        refine call (prInsert_ok (c := 255) (hO10.ext hE11) (hA10.ext hE11) hu hr10 (fun r hr => ?_) (fun z hz => ?_) (by omega) (by omega) (by have := hE11.size_le; omega)) ?_
        · have h1 := (hm10 r).1 hr
          have hM := nums_inM hB hk r (by obtain ⟨l, hl1, rfl⟩ := List.mem_map.1 h1; exact List.mem_map.2 ⟨l, List.mem_of_mem_take hl1, rfl⟩)
          exact ⟨by rw [hM.len, hMi.len], fun z hz => by have := hM.labs z hz; omega⟩
        · have := hMi.labs z hz; omega
        rintro r w12 ⟨hE12, ss2, L2, hO12, hA12, hr12, hm12, hl12⟩
        refine IN2_next hL.le hi' ⟨hE10.trans (hE11.trans hE12), ss2, L2, hO12, hA12, hr12, fun z => ?_, by omega⟩
        rw [hm12, hm10, map_take_succ hi', List.mem_append, List.mem_singleton]
      · have : i = L.length := by omega
        subst this
        rw [List.take_length] at hm10
        have hLe : L' = ownOf L k := confOf_eq hr10 hm10 (nums_inM hB hk)
        subst hLe
        have hY : SlR (fun b => w9.heap.size ≤ b) w10 y (ownOf L k) := hO10.rows hA10.1 hA10.2 (fun b hb => hb)
        have hE0 : Ext w w9 := hE.trans hE29
        have hE310 : Ext w3 w10 := hE9.trans hE10
        have hE010 : Ext w w10 := hE.trans (hE3.trans hE310)
        have hpmne : ∀ b, w9.heap.size ≤ b → b ≠ pm.block := fun b hb he => by omega
        have hppne : pp.block ≠ pm.block := by have := hE1.size_le; omega
        have hpxne : px.block ≠ pm.block := by omega
        have hwpm : w3.heap.size ≤ pm.block := by omega
        have ek : p.degree = ((p.degree.toNat : Nat) : Int) := by omega
        have e2 : (2 : Int) = ((2 : Nat) : Int) := rfl
        cases e with
        | true =>
          refine cond_t rfl ?_
          refine ST_box1 (i := 3) (hb9.ext hE10) (by simp) rfl fun w13 hz13 hk13 hX13 hb13 => ?_
          have hE313 : Ext w3 w13 := hX13 w3 hE310 hwpm
          have hb1' := hb1.ext (hE3.trans hE313)
          refine LD_bs2 hb1' (LD_bi1 hb1' ?_)
          rw [ek]
          refine call (elSome_ok (good := p.nodes) (k := p.degree.toNat) (h.ext (hE3.trans hE313)).nodes (hm.ext hE313).any hSv (by omega) (by omega)) ?_
          rintro r w14 ⟨hE14, hO14⟩
          refine ST_box1 (i := 2) (hb13.ext hE14) (by simp) rfl fun w15 hz15 hk15 hX15 hb15 => ?_
          have hE315 : Ext w3 w15 := hX15 w3 (hE313.trans hE14) hwpm
          refine LD_iiss (z := r) (u := y) hb15 ?_
          refine ST_all (hb2.ext (hE3.trans hE315)) (one4p _ _ _ _) rfl fun w19 hs19 hz19 hb19 => LD_iiss hb19 ?_
          have hYw : SlR (fun b => w9.heap.size ≤ b) w19 y (ownOf L k) := ((((hY.agr fun b hb => hk13 b (hpmne b hb)).ext hE14).agr fun b hb => hk15 b (hpmne b hb)).stepD hs19 fun b hb he => by cases he; omega)
          have hNk : Own2 w19 w13.heap.size T.t_int T.t_sl_int r _ := (hO14.keep fun b hb _ => hk15 b (hpmne b (by omega))).keep fun b hb hlt => hs19.block b hlt (by intro he; cases he; omega)
          have hNw := hNk.repD (own_I64 (by omega) _)
          have hz913 : w9.heap.size ≤ w13.heap.size := by omega
          refine ⟨hs19.ext0 (hE.trans (hE3.trans hE315)) fun k hk => by cases hk; have := hE1.size_le; omega, .inl ⟨rfl, ⟨by omega, by omega⟩, rfl, rfl, NewP.low (base := w2.heap.size) ⟨?_, ?_, hNw.weak (fun b hb _ => by omega) RepP.pos, hYw.weak (fun b hb _ => by omega) RepP.pos, ((hm.ext hE315).stepD hs19 fun b hb he => by cases he; have : w2.heap.size ≤ px.block := hb; omega)⟩ hzE⟩⟩
          · show I64 (((setsOf L).length : Nat) : Int); unfold I64; omega
          · show I64 p.degree; unfold I64; omega
        | false =>
          refine cond_f rfl ?_
          refine ST_box1 (i := 2) (hb9.ext hE10) (by simp) rfl fun w13 hz13 hk13 hX13 hb13 => ?_
          have hE313 : Ext w3 w13 := hX13 w3 hE310 hwpm
          have hb1' := hb1.ext (hE3.trans hE313)
          refine LD_bs3 hb1' ?_
          rw [e2]
          refine call (elSome_ok (good := p.edges) (k := 2) (h.ext (hE3.trans hE313)).edges (hm.ext hE313).any hSv (by omega) (by omega)) ?_
          rintro r w14 ⟨hE14, hO14⟩
          refine ST_box1 (i := 3) (hb13.ext hE14) (by simp) rfl fun w15 hz15 hk15 hX15 hb15 => ?_
          have hE315 : Ext w3 w15 := hX15 w3 (hE313.trans hE14) hwpm
          refine LD_iiss (z := y) (u := r) hb15 ?_
          refine ST_all (hb2.ext (hE3.trans hE315)) (one4p _ _ _ _) rfl fun w19 hs19 hz19 hb19 => LD_iiss hb19 ?_
          have hYw : SlR (fun b => w9.heap.size ≤ b) w19 y (ownOf L k) := ((((hY.agr fun b hb => hk13 b (hpmne b hb)).ext hE14).agr fun b hb => hk15 b (hpmne b hb)).stepD hs19 fun b hb he => by cases he; omega)
          have hNk : Own2 w19 w13.heap.size T.t_int T.t_sl_int r _ := (hO14.keep fun b hb _ => hk15 b (hpmne b (by omega))).keep fun b hb hlt => hs19.block b hlt (by intro he; cases he; omega)
          have hNw := hNk.repD (own_I64 (by omega) _)
          have hz913 : w9.heap.size ≤ w13.heap.size := by omega
          refine ⟨hs19.ext0 (hE.trans (hE3.trans hE315)) fun k hk => by cases hk; have := hE1.size_le; omega, .inl ⟨rfl, ⟨by omega, by omega⟩, rfl, rfl, NewP.low (base := w2.heap.size) ⟨?_, ?_, hYw.weak (fun b hb _ => by omega) RepP.pos, hNw.weak (fun b hb _ => by omega) RepP.pos, ((hm.ext hE315).stepD hs19 fun b hb he => by cases he; have : w2.heap.size ≤ px.block := hb; omega)⟩ hzE⟩⟩
          · show I64 (((setsOf L).length : Nat) : Int); unfold I64; omega
          · show I64 p.degree; unfold I64; omega

end Go.Proofs.YtaeledhbkdakcaaGreatDoor
end

section
/- The edge step of problems that are asked for, both sides; what sets there are. -/
namespace Go.Proofs.YtaeledhbkdakcaaGreatDoor
open Go.GX Go.RowKit
set_option maxRecDepth 100000

theorem StIs.through {w w1 w2 : World} {q : Prob} {few : Prop} {S : List Int} {x y : Int} {z u a : Sl} {b : Bool} {px : Addr} {Q : Int → Int → Sl → Sl → World → Prop} (h : StIs w1 q few S x y z u a b w2) (hE : Ext w w1) (hb : Box w2 px T.t_i_Problem [.int .i64 0, .int .i64 0, .slice none 0 0, .slice none 0 0]) (h1 : w.heap.size ≤ px.block) (h2 : px.block < w1.heap.size)
    (hQ : ∀ w', StIs w q few S x y z u a b w' → Q x y z u w') : ST px 0 [.int .i64 x, .int .i64 y, z.v, u.v] w2 fun w' => LD [.int .i64, .int .i64, .sl, .sl] px w' fun (x' : Int) (y' : Int) (z' : Sl) (u' : Sl) => Q x' y' z' u' w' := by
  refine ST_all hb (one4p _ _ _ _) rfl fun w3 hs3 hz3 hb3 => LD_iiss hb3 (hQ w3 ?_)
  obtain ⟨hE2, hr⟩ := h
  refine ⟨hs3.ext0 (hE.trans hE2) fun k hk => by cases hk; omega, ?_⟩
  rcases hr with ⟨r1, r2, r3, r4, r5⟩ | hr
  · exact .inl ⟨r1, r2, r3, r4, (r5.step hs3 h2).low hE.size_le⟩
  · exact .inr hr

/-- Zeros in place of a problem. -/
theorem zero_problem {w w2 : World} {px : Addr} {Q : Int → Int → Sl → Sl → World → Prop} (hE : Ext w w2) (hb : Box w2 px T.t_i_Problem [.int .i64 0, .int .i64 0, .slice none 0 0, .slice none 0 0]) (h1 : w.heap.size ≤ px.block)
    (hQ : ∀ w', Ext w w' → Q 0 0 ⟨none, 0, 0⟩ ⟨none, 0, 0⟩ w') : ST px 0 [.int .i64 0, .int .i64 0, .slice none 0 0, .slice none 0 0] w2 fun w' => LD [.int .i64, .int .i64, .sl, .sl] px w' fun (x' : Int) (y' : Int) (z' : Sl) (u' : Sl) => Q x' y' z' u' w' := by
  refine ST_all hb (one4p 0 0 ⟨none, 0, 0⟩ ⟨none, 0, 0⟩) rfl fun w3 hs3 hz3 hb3 => ?_
  exact LD_iiss (z := ⟨none, 0, 0⟩) (u := ⟨none, 0, 0⟩) hb3 (hQ w3 (hs3.ext0 hE fun k hk => by cases hk; omega))

theorem made_edge (p : Prob) : madeP p true (edgeFull p) 2 = edgeP p := rfl
theorem made_node (p : Prob) : madeP p false (nodeFull p) p.degree.toNat = nodeP p := rfl

theorem elEdge_ok {w : World} {c d : Sl} {p : Prob} (h : RProb w c d p) (hg : PGood p) :
    Calls Tryz.prog F.s_elEdge #[.agg #[.int .i64 p.labels, .int .i64 p.degree, c.v, d.v]] w (Ret [.agg [.int .i64, .int .i64, .sl, .sl], .at .sl, .at .bool] (StIs w (edgeP p) (edFew p) (edgeSets p))) := by
  refine C_s_elEdge ?_
  unfold V_s_elEdge
  refine NEW_intro fun pp w1 hp1 hs1 hE1 hb1 => NEW_intro fun px w2 hp2 hs2 hE2 hb2 => ?_
  have hE := hE1.trans hE2
  replace h := h.ext hE
  replace hb1 := hb1.ext hE2
  have hlab := hg.lab
  have htwo := two_lab hg
  have h64e : ∀ r ∈ edgeFull p, ∀ x ∈ r, I64 x := fun r hr x hx => by obtain ⟨m, rfl, hm⟩ := edge_byte hg r hr x hx; unfold I64; omega
  refine ⟨fun (out : Sl) (x : Int) w' => ∃ m : Nat, x = m ∧ 1 ≤ m ∧ m ≤ 2 ^ p.labels.toNat ∧ Ext w2 w' ∧ ∃ ss, RowsD w' w2.heap.size T.t_int T.t_sl_int out (((List.range m).filter (edF p)).map (edG p)) ss, fun _ x _ => 2 ^ p.labels.toNat - x.toNat,
    ⟨1, rfl, by omega, Nat.one_le_two_pow, Ext.refl _, [], by
      have : ((List.range 1).filter (edF p)).map (edG p) = [] := by simp [List.range_succ, edF]
      rw [this]; exact RowsD.nil _ _ _ _⟩, ?_⟩
  rintro out _ w3 ⟨m, rfl, hm1, hm, hE3, ss, hR⟩
  intros
  replace h := h.ext hE3
  replace hb1 := hb1.ext hE3
  replace hb2 := hb2.ext hE3
  have hz2 := hE.size_le
  have hz3 := hE3.size_le
  refine LD_bi0 hb1 ⟨by omega, ?_⟩
  have en : p.labels = ((p.labels.toNat : Nat) : Int) := by omega
  rw [en, shl_one (by omega), Int.toNat_natCast]
  refine cond_dec (fun hlt => ?_) (fun hge => ?_)
  · have hlt' : m < 2 ^ p.labels.toNat := by omega
    have hlen : (((List.range m).filter (edF p)).map (edG p)).length ≤ m := by
      rw [List.length_map]
      have h1 := List.length_filter_le (edF p) (List.range m)
      rwa [List.length_range] at h1
    have hnext : ∀ {w'}, Ext w3 w' → edF p m = false → (∃ m' : Nat, IntKind.i64.wrap ((m : Int) + 1) = m' ∧ 1 ≤ m' ∧ m' ≤ 2 ^ p.labels.toNat ∧ Ext w2 w' ∧ ∃ ss, RowsD w' w2.heap.size T.t_int T.t_sl_int out (((List.range m').filter (edF p)).map (edG p)) ss) ∧ 2 ^ p.labels.toNat - (IntKind.i64.wrap ((m : Int) + 1)).toNat < 2 ^ p.labels.toNat - ((m : Int)).toNat := fun {w'} hE' hf => by
      rw [wrap_of (by omega) (by omega)]
      refine ⟨⟨m + 1, by omega, by omega, hlt', hE3.trans hE', ss, ?_⟩, by omega⟩
      rw [List.range_succ, List.filter_append, List.map_append]
      simpa [hf] using hR.ext hE'
    refine LD_iiss hb1 ?_
    refine call (elNear_ok h hg) ?_
    rintro _ w4 ⟨rfl, hE4⟩
    refine cond_dec (fun hne => LD_iiss (hb1.ext hE4) ?_) (fun h0 => hnext hE4 (by
      have h1 : near p m = 0 := by omega
      simp [edF, h1]))
    refine call (elNear_ok (h.ext hE4) hg) ?_
    rintro _ w5 ⟨rfl, hE5⟩
    have hE35 := hE4.trans hE5
    refine cond_eq (fun heq => ?_) (fun hneq => hnext hE35 (by
      have h1 : near p (near p m) ≠ m := fun h => hneq (by rw [h])
      simp [edF, h1]))
    have hF : edF p m = true := by
      have h1 : near p (near p m) = m := by have : ((near p (near p m) : Nat) : Int) = m := heq; omega
      have h2 : near p m ≠ 0 := by omega
      simp [edF, h1, h2, hm1]
    have hb64 : ∀ x ∈ edG p m, I64 x := fun x hx => by
      have := near_lt hg m
      unfold edG at hx
      rcases List.mem_cons.1 hx with rfl | hx
      · unfold I64; omega
      · rw [List.mem_singleton.1 hx]; unfold I64; omega
    refine RUN_lits slt_int (edG p m) (by simp [edG]) (by simp [edG]) rfl rfl fun x w6 hE6 hO6 => ?_
    have hz5 := hE35.size_le
    refine RUN_lit1 (α := Sl) slt_rows x rfl (by decide) fun y w7 hE7 hO7 => ?_
    have hE37 := (hE35.trans hE6).trans hE7
    have hR7 := hR.ext hE37
    have hz7 := hE37.size_le
    refine RUN_append_rowD slt_rows (by decide) hR7 (by omega) ((hO6.ext hE7).low (by omega)) ((hR.ext hE35).fresh (hO6.ext hE7) (Nat.le_refl _)) hO7 (by omega) (by unfold maxLen; omega) fun s' w8 hR8 hs8 => ?_
    rw [wrap_of (by omega) (by omega)]
    refine ⟨⟨m + 1, by omega, by omega, hlt', hs8.ext0 (hE3.trans hE37) fun k hk => (hR7.own.blk k hk).1, ss ++ [x], ?_⟩, by simp only []; omega⟩
    rw [List.range_succ, List.filter_append, List.map_append]
    simpa [hF] using hR8
  · have : m = 2 ^ p.labels.toNat := by omega
    subst this
    rw [← edgeFull_eq] at hR
    have hel := edge_len hg
    refine LD_iiss hb1 ?_
    refine call (elMade_ok (k := 2) true h hg (hR.rep h64e) (edge_byte hg) edge_two (by omega) (by omega)) ?_
    rintro x y z u a b w4 hst
    rw [made_edge] at hst
    have hlt2 := hb2.lt
    exact StIs.through hst (hE.trans hE3) (hb2.ext hst.1) (by omega) (by omega) fun w' h => h

def edGood (p : Prob) : Prop := PGood p ∧ edFew p

theorem sEdgeStep_ok {w : World} {c d : Sl} {p : Prob} (h : RProb w c d p)  :
    Calls Tryz.prog F.s_EdgeStep #[.agg #[.int .i64 p.labels, .int .i64 p.degree, c.v, d.v]] w (Ret [.agg [.int .i64, .int .i64, .sl, .sl], .at .sl, .at .bool] (StIs w (edgeP p) (edGood p) (edgeSets p))) := by
  refine C_s_EdgeStep ?_
  unfold V_s_EdgeStep
  refine NEW_intro fun pp w1 hp1 hs1 hE1 hb1 => NEW_intro fun px w2 hp2 hs2 hE2 hb2 => ?_
  have hE := hE1.trans hE2
  have hz1 := hE1.size_le
  replace h := h.ext hE
  replace hb1 := hb1.ext hE2
  refine LD_iiss hb1 ?_
  refine call (prGood_ok h) ?_
  rintro x w3 ⟨hx, hE3⟩
  replace hE := hE.ext hE3
  replace h := h.ext hE3
  replace hb1 := hb1.ext hE3
  replace hb2 := hb2.ext hE3
  refine cond_not (fun hf => ?_) (fun ht => LD_iiss hb1 ?_)
  · exact zero_problem hE hb2 (by omega) fun w' hE' => ⟨hE', .inr ⟨rfl, fun hA => by rw [hx.2 hA.1] at hf; cases hf⟩⟩
  · have hg := hx.1 ht
    refine call (elEdge_ok h hg) ?_
    rintro x y z u a b w4 hst
    have hlt2 := hb2.lt
    have hst' : StIs w3 (edgeP p) (edGood p) (edgeSets p) x y z u a b w4 := ⟨hst.1, by
      rcases hst.2 with ⟨r1, r2, r3⟩ | ⟨r1, r2⟩
      · exact .inl ⟨r1, ⟨hg, r2⟩, r3⟩
      · exact .inr ⟨r1, fun hA => r2 hA.2⟩⟩
    exact StIs.through hst' hE (hb2.ext hst.1) (by omega) hlt2 fun w' h => h


end Go.Proofs.YtaeledhbkdakcaaGreatDoor
end

section
/- Numbers read ls lists of digits, completing sets: in plain words. -/
namespace Go.Proofs.YtaeledhbkdakcaaGreatDoor
open Go.GX

/-- The first k digits of a number, the lowest one first. -/
def digs (n k x : Nat) : List Int := (List.range k).map fun u => ((x / n ^ u % n : Nat) : Int)

theorem digs_succ (n k x : Nat) : digs n (k + 1) x = digs n k x ++ [((x / n ^ k % n : Nat) : Int)] := by
  unfold digs
  rw [List.range_succ, List.map_append]
  rfl

theorem digs_len (n k x : Nat) : (digs n k x).length = k := by simp [digs]

/-- The number of a list of digits. -/
def valL (n : Nat) : List Int → Nat
  | [] => 0
  | a :: c => a.toNat + n * valL n c

def Dig (n : Nat) (c : List Int) : Prop := ∀ x ∈ c, 0 ≤ x ∧ x < n

theorem valL_lt {n : Nat} : ∀ {c : List Int}, Dig n c → valL n c < n ^ c.length
  | [], _ => by simp [valL]
  | a :: c, h => by
    have h1 := h a (by simp)
    have h2 := valL_lt (c := c) fun x hx => h x (List.mem_cons_of_mem _ hx)
    have h3 : n * (valL n c + 1) ≤ n * n ^ c.length := Nat.mul_le_mul_left n h2
    rw [Nat.mul_add, Nat.mul_one] at h3
    have h4 : n ^ (a :: c).length = n * n ^ c.length := by rw [List.length_cons, Nat.pow_succ, Nat.mul_comm]
    rw [valL, h4]
    omega

theorem valL_digit {n : Nat} (hn : 0 < n) : ∀ {c : List Int}, Dig n c → ∀ u (hu : u < c.length), ((valL n c / n ^ u % n : Nat) : Int) = c[u]
  | [], _, u, hu => by simp at hu
  | a :: c, h, 0, _ => by
    have h1 := h a (by simp)
    rw [valL, Nat.pow_zero, Nat.div_one, Nat.add_mul_mod_self_left, Nat.mod_eq_of_lt (by omega)]
    simp
    omega
  | a :: c, h, u + 1, hu => by
    have h1 := h a (by simp)
    have e : valL n (a :: c) / n ^ (u + 1) = valL n c / n ^ u := by
      rw [valL, Nat.pow_succ, Nat.mul_comm (n ^ u) n, ← Nat.div_div_eq_div_mul, Nat.add_mul_div_left _ _ hn, Nat.div_eq_of_lt (show a.toNat < n by omega), Nat.zero_add]
    rw [e]
    simpa using valL_digit hn (c := c) (fun x hx => h x (List.mem_cons_of_mem _ hx)) u (by simpa using hu)

theorem digs_valL {n : Nat} (hn : 0 < n) {c : List Int} (h : Dig n c) : digs n c.length (valL n c) = c := by
  apply List.ext_getElem (by simp [digs])
  intro u h1 h2
  simp only [digs, List.getElem_map, List.getElem_range]
  exact valL_digit hn h u h2

theorem valL_snoc {n : Nat} : ∀ {c : List Int} {a : Int}, valL n (c ++ [a]) = valL n c + a.toNat * n ^ c.length
  | [], a => by simp [valL]
  | b :: c, a => by
    rw [List.cons_append, valL, valL_snoc, valL, List.length_cons, Nat.pow_succ, Nat.mul_add]
    have : n * (a.toNat * n ^ c.length) = a.toNat * (n ^ c.length * n) := by
      rw [Nat.mul_left_comm, Nat.mul_comm n]
    omega

theorem Dig.snoc {n : Nat} {c : List Int} (h : Dig n c) {a : Nat} (ha : a < n) : Dig n (c ++ [(a : Int)]) := fun x hx => by
  rcases List.mem_append.1 hx with h1 | h1
  · exact h x h1
  · rw [List.mem_singleton.1 h1]; omega

theorem Dig.rev {n : Nat} {c : List Int} (h : Dig n c) : Dig n c.reverse := fun x hx => h x (List.mem_reverse.1 hx)

/-! ### Completing -/

/-- The labels that complete each choice from sets, behind what is chosen. -/
def complG (p : Prob) (ms pre : List Int) : Nat := maskOf p.labels.toNat fun b => (prodL (ms.map fun m => labsOf m.toNat)).all fun c => nodeB p (pre ++ c ++ [(b : Int)])

theorem complM_G (p : Prob) (ms : List Int) : complM p ms = (complG p ms [] : Nat) := by
  unfold complM complG
  simp

/-- The same for some labels of the first set. -/
def complH (p : Prob) (rest pre ls : List Int) : Nat := maskOf p.labels.toNat fun b => ls.all fun a => (prodL (rest.map fun m => labsOf m.toNat)).all fun c => nodeB p (pre ++ a :: c ++ [(b : Int)])

theorem complG_cons (p : Prob) (m : Int) (rest pre : List Int) : complG p (m :: rest) pre = complH p rest pre (labsOf m.toNat) := by
  unfold complG complH
  apply maskOf_congr
  intro b _
  rw [Bool.eq_iff_iff, List.map_cons, List.all_eq_true, List.all_eq_true]
  constructor
  · intro h a ha
    rw [List.all_eq_true]
    intro c hc
    exact h (a :: c) (by simp only [prodL, List.mem_flatMap, List.mem_map]; exact ⟨a, ha, c, hc, rfl⟩)
  · intro h e he
    simp only [prodL, List.mem_flatMap, List.mem_map] at he
    obtain ⟨a, ha, c, hc, rfl⟩ := he
    exact List.all_eq_true.1 (h a ha) c hc

theorem complH_nil (p : Prob) (rest pre : List Int) {m : Nat} (hm : m < 2 ^ p.labels.toNat) : m &&& complH p rest pre [] = m := by
  apply Nat.eq_of_testBit_eq
  intro i
  rw [Nat.testBit_and]
  unfold complH
  rw [testBit_maskOf]
  by_cases hi : i < p.labels.toNat
  · simp [hi]
  · rw [Nat.testBit_lt_two_pow (Nat.lt_of_lt_of_le hm (Nat.pow_le_pow_right (by decide) (by omega)))]
    simp

theorem complH_snoc (p : Prob) (rest pre ls : List Int) (a : Int) (m : Nat) : m &&& complH p rest pre (ls ++ [a]) = (m &&& complH p rest pre ls) &&& complG p rest (pre ++ [a]) := by
  apply Nat.eq_of_testBit_eq
  intro i
  rw [Nat.testBit_and, Nat.testBit_and, Nat.testBit_and]
  unfold complH complG
  rw [testBit_maskOf, testBit_maskOf, testBit_maskOf, List.all_append]
  by_cases hi : i < p.labels.toNat
  · simp [hi, Bool.and_assoc]
  · simp [hi]

theorem complG_lt (p : Prob) (ms pre : List Int) : complG p ms pre < 2 ^ p.labels.toNat := maskOf_lt _ _
theorem complH_lt (p : Prob) (rest pre ls : List Int) : complH p rest pre ls < 2 ^ p.labels.toNat := maskOf_lt _ _

theorem full_and {n m : Nat} (hm : m < 2 ^ n) : (2 ^ n - 1) &&& m = m := by
  rw [Nat.and_comm, Nat.and_two_pow_sub_one_eq_mod, Nat.mod_eq_of_lt hm]

/-- The table's entries. -/
def tabM (p : Prob) (x : Nat) : Nat := maskOf p.labels.toNat fun b => nodeB p (digs p.labels.toNat (p.degree.toNat - 1) x ++ [(b : Int)])

theorem complG_end {p : Prob} (hl : 1 ≤ p.labels) {pre : List Int} (hd : Dig p.labels.toNat pre) (hlen : pre.length = p.degree.toNat - 1) : complG p [] pre = tabM p (valL p.labels.toNat pre) := by
  unfold complG tabM
  rw [← hlen, digs_valL (by omega) hd]
  apply maskOf_congr
  intro b _
  simp [prodL]

end Go.Proofs.YtaeledhbkdakcaaGreatDoor
end

section
/- Contracts of library functions (the kit's shelf, laid at this program by the kit's own tools, in plain words). -/
namespace Go.Proofs.YtaeledhbkdakcaaGreatDoor
open Go.Shelf
def Srt.laysNm223_ren : Go.Shelf.Ren := ⟨fun | 23 => 297 | n => n, fun | 22 => 25 | 3 => 3 | 4 => 4 | 0 => 0 | n => n, fun | n => n⟩
theorem Srt.laysNm223 : Go.Proofs.Lays2.n23 Tryz.prog Srt.laysNm223_ren := {
  mixed := by kernel_rfl
  f23 := Tryz.func297.trans (congrArg some (by kernel_rfl))
  t0 := Tryz.underlying0
  a0 := Tryz.isAgg0
  z0 := Tryz.sizeOf0
  v0 := Tryz.zeroValue0
  t3 := Tryz.underlying3
  a3 := Tryz.isAgg3
  z3 := Tryz.sizeOf3
  v3 := Tryz.zeroValue3
  t4 := Tryz.underlying4
  a4 := Tryz.isAgg4
  z4 := Tryz.sizeOf4
  v4 := Tryz.zeroValue4
  t22 := Tryz.underlying25
  a22 := Tryz.isAgg25
  z22 := Tryz.sizeOf25
  v22 := Tryz.zeroValue25
  i3 := by kernel_rfl }
open Go.RowKit Go.Lib Go.Sort in
/-- slices.Delete at []int: "Delete modifies s in place by removing the elements s[i:j], and returns the modified slice. Delete panics if j > len(s) or s[i:j] is not a valid slice of s. Delete is O(len(s)-i), so if many items must be deleted, it is better to make a single call deleting them all together than to delete one at a time. Delete zeroes the elements s[len(s)-(j-i):len(s)]. If the result is empty, it has the same nilness as s.": FOR i ≤ j ≤ len(s) IT RETURNS THE SLICE CUT TO len(s) - (j - i) ELEMENTS; ITS CELLS HOLD what stood ahead of i, what stood from j on, then j - i zero values; all else is as it was, but for the count of draws. IN THE WORDS OF slices.Sort's CONTRACT ('Holds', 'putRow'). It asks 'zs.length ≤ cap ≤ 2^63 - 1' (every slice's). (Outside i ≤ j ≤ len(s) it panics: no contract here.) (LAID: no walk: one application.) -/
theorem Srt.slices_Delete_int (blk off cap i j : Nat) (zs : List Int) (w : World) (hH : Holds (Value.int .i64) w blk off zs.toArray) (hcap : zs.length ≤ cap) (hm : cap ≤ 9223372036854775807) (hij : i ≤ j) (hj : j ≤ zs.length) :
    Calls Tryz.prog 297 #[.slice (some ⟨blk, off, none⟩) zs.length cap, .int .i64 i, .int .i64 j] w fun e w' => e = .returned (.slice (some ⟨blk, off, none⟩) (zs.length - (j - i)) cap) ∧ ∃ q, w' = putRow (Value.int .i64) (Sort.ahead w q) blk off (zs.take i ++ zs.drop j ++ List.replicate (j - i) 0).toArray := Any.slices_Delete_int Srt.laysNm223 blk off cap i j zs w hH hcap hm hij hj
end Go.Proofs.YtaeledhbkdakcaaGreatDoor
end

section
/- Tables of node sets, completing, full lists: the program. -/
namespace Go.GX
open Go.RowKit
theorem LD_ptr {w : World} {a x : Addr} {K : Addr → Prop} (hc : w.cell? a = some (.pointer (some x))) (hk : K x) : LD [.ptr] a w K :=
  ⟨[.pointer (some x)], rfl, fun i v hi => by match i, hi with | 0, hi => simp at hi; subst hi; exact hc, hk⟩
theorem LD_bs4 {w : World} {p : Addr} {t : TypeId} {x : Sl} {v0 v1 v2 v3 : Value} {r : List Value} {K : Sl → Prop} (hb : Box w p t (v0 :: v1 :: v2 :: v3 :: x.v :: r)) (hk : K x) : LD [.sl] (p.add 4) w K := LD_sl (hb.cell (i := 4) rfl) hk
end Go.GX
namespace Go.Proofs.YtaeledhbkdakcaaGreatDoor
open Go.GX Go.RowKit
set_option maxRecDepth 100000

/-- What computes with sets of labels of nodes: its table is right. -/
def NS (w : World) (pa : Addr) (p : Prob) (c d : Sl) : Prop := ∃ (af : Sl) (A : List Int), Box w pa T.t_i_nodeSets [.int .i64 p.labels, .int .i64 p.degree, c.v, d.v, af.v] ∧ R w af A ∧ A.length = p.labels.toNat ^ (p.degree.toNat - 1) ∧ ∀ u, u < A.length → A.getD u 0 = (tabM p u : Nat)

theorem NS.ext {w w' : World} {pa : Addr} {p : Prob} {c d : Sl} (h : NS w pa p c d) (hE : Ext w w') : NS w' pa p c d := by
  obtain ⟨af, A, h1, h2, h3⟩ := h
  exact ⟨af, A, h1.ext hE, h2.ext hE, h3⟩

theorem RUN_makeI {x : Int} {n : Nat} (hx : x = (n : Nat)) (hn : n ≤ 1000) {w : World} {K : Sl → World → Prop} (hk : ∀ s w', Ext w w' → OwnL w' w.heap.size T.t_int s (List.replicate n (0 : Int)) → K s w') : RUN Tryz.prog (.at .sl) (Instr.makeSlice T.t_sl_int (.int .i64 x) (.int .i64 x)) w K := by
  subst hx
  exact RUN_make (α := Int) slt_int (d := 0) rfl (by omega) (by unfold maxLen; omega) hk

theorem getD_setI {A : List Int} {k u : Nat} {v : Int} (hk : k < A.length) : (A.set k v).getD u 0 = if u = k then v else A.getD u 0 := by
  by_cases h : u = k
  · subst h; simp [hk]
  · rw [if_neg h]
    simp only [List.getD_eq_getElem?_getD]
    rw [List.getElem?_set_ne (Ne.symm h)]

theorem wrapN {q : Nat} (h : q ≤ 1000000) : IntKind.i64.wrap (q : Int) = q := wrap_of (by omega) (by omega)

theorem newNodeSets_ok {w : World} {c d : Sl} {p : Prob} (h : RProb w c d p) (hs : SmallP p) (hg : PGood p) :
    Calls Tryz.prog F.i_newNodeSets #[.agg #[.int .i64 p.labels, .int .i64 p.degree, c.v, d.v]] w (Ret [.at .ptr] fun (pa : Addr) w' => Ext w w' ∧ NS w' pa p c d) := by
  refine C_i_newNodeSets ?_
  unfold V_i_newNodeSets
  refine NEW_intro fun pp w1 hp1 hs1 hE1 hb1 => LD_bi1 hb1 ?_
  have hlab := hg.lab
  have hd := hg.deg
  have en : p.labels = ((p.labels.toNat : Nat) : Int) := by omega
  have ed : IntKind.i64.wrap (p.degree - 1) = ((p.degree.toNat - 1 : Nat) : Int) := by rw [wrap_of (by omega) (by omega)]; omega
  have hpow : ∀ j, j ≤ 3 → p.labels.toNat ^ j ≤ 512 := fun j hj => by
    have h1 : p.labels.toNat ^ j ≤ 8 ^ j := Nat.pow_le_pow_left (by omega) j
    have h2 : 8 ^ j ≤ 8 ^ 3 := Nat.pow_le_pow_right (by decide) hj
    have h3 : 8 ^ 3 = 512 := by decide
    omega
  generalize hn : p.labels.toNat = n at *
  generalize hk : p.degree.toNat - 1 = k at *
  have hk3 : k ≤ 3 := by omega
  have hn8 : 1 ≤ n ∧ n ≤ 8 := by omega
  rw [ed]
  refine ⟨fun (x y : Int) w' => ∃ i : Nat, y = i ∧ i ≤ k ∧ x = ((n ^ i : Nat) : Int) ∧ w1 = w', fun _ y _ => k - y.toNat, ⟨0, rfl, Nat.zero_le _, rfl, rfl⟩, ?_⟩
  rintro _ _ _ ⟨i, rfl, hi, rfl, rfl⟩
  intros
  refine cond_dec (fun hlt => LD_bi0 hb1 ?_) (fun hge => ?_)
  · have h1 := hpow (i + 1) (by omega)
    have e1 : ((n ^ i : Nat) : Int) * p.labels = ((n ^ (i + 1) : Nat) : Int) := by rw [en, Nat.pow_succ, Int.natCast_mul]
    rw [e1, wrapN (by omega), wrap_of (n := (i : Int) + 1) (by omega) (by omega)]
    exact ⟨⟨i + 1, by omega, by omega, rfl, rfl⟩, by simp only []; omega⟩
  have : i = k := by omega
  subst this
  have hN := hpow i hk3
  intro w3 hE3 _
  have hE13 := hE3
  refine LD_iiss (hb1.ext hE3) ⟨Ext.refl _, ?_⟩
  generalize hNe : n ^ i = N at *
  refine RUN_make (α := Int) slt_int (d := 0) rfl (by omega) (by unfold maxLen; omega) fun af w4 hE4 hO4 => ⟨hE4, ?_⟩
  refine NEW_intro fun px w5 hpx hs5 hE5 hb5 => ⟨hE4.trans hE5, ?_⟩
  have hE35 := hE4.trans hE5
  refine LD_bs4 hb5 ?_
  have hal : af.len = N := by rw [hO4.1]; simp
  rw [hal]
  have hz1 := hE1.size_le
  have hz3 := hE13.size_le
  have hz4 := hE4.size_le
  have hz5 := hE5.size_le
  have haf : ∀ b, oB af b → w3.heap.size ≤ b ∧ b < w4.heap.size := fun b hb => hO4.blk b hb
  refine ⟨IN N fun key w' => Ext w1 w' ∧ w5.heap.size ≤ w'.heap.size ∧ Box w' px T.t_i_nodeSets [.int .i64 p.labels, .int .i64 p.degree, c.v, d.v, af.v] ∧ ∃ A : List Int, OwnL w' w3.heap.size T.t_int af A ∧ A.length = N ∧ (∀ u, u < key → A.getD u 0 = (tabM p u : Nat)) ∧ (∀ u, key ≤ u → u < N → A.getD u 0 = 0) ∧ ∀ x ∈ A, I64 x, MN N,
    IN_zero ⟨hE13.trans hE35, Nat.le_refl _, hb5, List.replicate N 0, hO4.ext hE5, by simp, fun u hu => absurd hu (by omega), fun u _ hu => by simp [hu], by intro x hx; rw [List.eq_of_mem_replicate hx]; unfold I64; omega⟩, ?_⟩
  rintro _ w6 ⟨key, rfl, hkey, hE6, hsz6, hb6, A, hA, hAl, hA1, hA2, hA3⟩
  intros
  refine cond_dec (fun hlt => ?_) (fun hge => ?_)
  · have hkN : key < N := by omega
    refine LD_bi1 (hb1.ext hE6) ?_
    have ek : p.degree = ((i + 1 : Nat) : Int) := by omega
    refine RUN_makeI ek (by omega) fun la w7 hE7 hO7 => ?_
    have hla : ∀ b, oB la b → w6.heap.size ≤ b := fun b hb => (hO7.blk b hb).1
    refine LD_bi1 (hb1.ext (hE6.trans hE7)) ?_
    rw [ed]
    have hz7 := hE7.size_le
    refine ⟨fun (x y : Int) w' => ∃ j : Nat, y = j ∧ j ≤ i ∧ x = ((key / n ^ j : Nat) : Int) ∧ Chg w7 w' (oB la) ∧ ∃ X : List Int, OwnL w' w6.heap.size T.t_int la X ∧ X.length = i + 1 ∧ X.take j = digs n j key, fun _ y _ => i - y.toNat, ⟨0, rfl, Nat.zero_le _, by simp, Chg.refl _ _, _, hO7, by simp, by simp [digs]⟩, ?_⟩
    rintro _ _ w8 ⟨j, rfl, hj, rfl, hC8, X, hX, hXl, hXt⟩
    intros
    have hb18 : Box w8 pp T.t_i_Problem [.int .i64 p.labels, .int .i64 p.degree, c.v, d.v] := (hb1.ext (hE6.trans hE7)).chg hC8 ((hb1.ext (hE6.trans hE7)).notOwn hO7 (by decide))
    refine cond_dec (fun hlt2 => ?_) (fun hge2 => ?_)
    · have hji : j < i := by omega
      refine LD_bi0 hb18 ⟨by omega, ?_⟩
      refine IX_own hX (i := j) (by omega) rfl fun q hq => ?_
      have em : Int.tmod ((key / n ^ j : Nat) : Int) p.labels = ((key / n ^ j % n : Nat) : Int) := by rw [en, Int.ofNat_tmod]
      have edv : Int.tdiv ((key / n ^ j : Nat) : Int) p.labels = ((key / n ^ (j + 1) : Nat) : Int) := by rw [en, ← Int.ofNat_tdiv, Nat.div_div_eq_div_mul, Nat.pow_succ]
      rw [em]
      refine ST_own hX (i := j) (by omega) hq ((key / n ^ j % n : Nat) : Int) rfl fun w9 hX9 hs9 => ?_
      have hb19 := hb18.stepT hX (by decide) hs9
      refine LD_bi0 hb19 ⟨by omega, ?_⟩
      have hdv : key / n ^ (j + 1) ≤ key := Nat.div_le_self _ _
      rw [edv, wrapN (by omega), wrap_of (n := (j : Int) + 1) (by omega) (by omega)]
      refine ⟨⟨j + 1, by omega, by omega, rfl, hC8.trans (.of_step hs9 fun b hb => hb), _, hX9, by simpa using hXl, ?_⟩, by simp only []; omega⟩
      rw [set_take (by omega), hXt, digs_succ]
    · have : j = i := by omega
      subst this
      refine LD_bi0 hb18 ?_
      let f : Nat → Bool := fun b => nodeB p (digs n j key ++ [(b : Int)])
      have htab : tabM p key = maskOf n f := by unfold tabM; rw [hn, hk]
      have hoff : ∀ b, oB af b → ¬ oB la b := fun b h1 h2 => by have := (haf b h1).2; have := hla b h2; omega
      have hA7 : OwnL w8 w3.heap.size T.t_int af A := (hA.ext hE7).chg hC8 hoff
      have hb68 : Box w8 px T.t_i_nodeSets [.int .i64 p.labels, .int .i64 p.degree, c.v, d.v, af.v] := (hb6.ext hE7).chg hC8 ((hb6.ext hE7).notOwn hO7 (by decide))
      have hE18 : Ext w1 w8 := hC8.ext0 (hE6.trans hE7) fun b hb => by have := hla b hb; have := hE6.size_le; omega
      have hz8 := hC8.size
      refine ⟨fun (y : Int) w' => ∃ b : Nat, y = b ∧ b ≤ n ∧ Ext w1 w' ∧ w8.heap.size ≤ w'.heap.size ∧ Box w' px T.t_i_nodeSets [.int .i64 p.labels, .int .i64 p.degree, c.v, d.v, af.v] ∧ (∃ X : List Int, OwnL w' w6.heap.size T.t_int la X ∧ X.length = j + 1 ∧ X.take j = digs n j key) ∧
        ∃ A : List Int, OwnL w' w3.heap.size T.t_int af A ∧ A.length = N ∧ (∀ u, u < key → A.getD u 0 = (tabM p u : Nat)) ∧ A.getD key 0 = (maskOf b f : Nat) ∧ (∀ u, key < u → u < N → A.getD u 0 = 0) ∧ ∀ x ∈ A, I64 x, fun y _ => n - y.toNat,
        ⟨0, rfl, Nat.zero_le _, hE18, Nat.le_refl _, hb68, ⟨X, hX, hXl, hXt⟩, A, hA7, hAl, hA1, by rw [hA2 key (Nat.le_refl _) hkN]; rfl, fun u h1 h2 => hA2 u (by omega) h2, hA3⟩, ?_⟩
      rintro _ w10 ⟨b, rfl, hb, hE10, hsz10, hb10, ⟨X', hX', hXl', hXt'⟩, A', hA', hAl', hA1', hAk', hA2', hA3'⟩
      intros
      refine cond_dec (fun hlt3 => ?_) (fun hge3 => ?_)
      · have hbn : b < n := by omega
        refine LD_bi1 (hb1.ext hE10) ?_
        rw [ed]
        refine IX_own hX' (i := j) (by omega) rfl fun q hq => ?_
        refine ST_own hX' (i := j) (by omega) hq (b : Int) rfl fun w11 hX11 hs11 => ?_
        have hE11 : Ext w1 w11 := hs11.ext0 hE10 fun k hk => by have := (hX'.blk k hk).1; have := hE6.size_le; omega
        have hXe : X'.set j (b : Int) = digs n j key ++ [(b : Int)] := by
          have h1 := set_take (X := X') (k := j) (by omega) (b : Int)
          rw [List.take_of_length_le (by simp; omega), hXt'] at h1
          exact h1
        rw [hXe] at hX11
        have hX64 : ∀ x ∈ digs n j key ++ [(b : Int)], I64 x := fun x hx => by
          rcases List.mem_append.1 hx with h1 | h1
          · obtain ⟨u, _, rfl⟩ := List.mem_map.1 h1
            have : key / n ^ u % n < n := Nat.mod_lt _ (by omega)
            show I64 (((key / n ^ u % n : Nat)) : Int)
            generalize key / n ^ u % n = z at this
            unfold I64; omega
          · rw [List.mem_singleton.1 h1]; unfold I64; omega
        have hla' : ∀ b, oB la b → ¬ oB af b := fun b h1 h2 => hoff b h2 h1
        have hA11 : OwnL w11 w3.heap.size T.t_int af A' := hA'.chg (.of_step hs11 fun k hk => hk) hoff
        have hb11 := hb10.stepT hX' (by decide) hs11
        refine LD_iiss (hb1.ext hE11) ?_
        refine call (node_ok (h.ext (hE1.trans hE11)) hs hg (hX11.rep hX64).any (by simp [digs_len]; omega)) ?_
        rintro x w12 ⟨hx, hE12⟩
        have ex : x = f b := bool_of hx nodeB_iff
        subst ex
        have hsz11 := hs11.size
        have hsz12 := hE12.size_le
        have hXk : ∀ {w'}, OwnL w' w6.heap.size T.t_int la (digs n j key ++ [(b : Int)]) → ∃ X : List Int, OwnL w' w6.heap.size T.t_int la X ∧ X.length = j + 1 ∧ X.take j = digs n j key := fun hO => ⟨_, hO, by simp [digs_len], by rw [List.take_append_of_le_length (by rw [digs_len]; exact Nat.le_refl _), List.take_of_length_le (by rw [digs_len]; exact Nat.le_refl _)]⟩
        refine cond_b (fun ht => ?_) (fun hf => ?_)
        · intro w13 hE13' _
          have hE1213 := hE12.trans hE13'
          have hA13 := hA11.ext hE1213
          refine ⟨fun _ => False, by omega, Chg.refl _ _, Chg.refl _ _, LD_bs4 (hb11.ext hE1213) ⟨Chg.refl _ _, ?_⟩⟩
          refine (hA13.rep hA3').any.ixI (i := key) (by omega) fun q _ hc => ⟨Chg.refl _ _, LD_int hc ⟨Chg.refl _ _, Chg.refl _ _, ?_⟩⟩
          have hAk : A'[key]'(by omega) = (maskOf b f : Nat) := by rw [← hAk']; simp [show key < A'.length by omega]
          rw [hAk, mask_or (by omega)]
          refine IX_own hA13 (i := key) (by omega) rfl fun q hq => ?_
          refine ST_own hA13 (i := key) (by omega) hq ((maskOf b f ||| 2 ^ b : Nat) : Int) rfl fun w14 hA14 hs14 => ?_
          have hE14 : Ext w1 w14 := hs14.ext0 (hE11.trans hE1213) fun k hk => by have := (hA13.blk k hk).1; omega
          have hsz13 := hE13'.size_le
          have hsz14 := hs14.size
          have hnew : maskOf b f ||| 2 ^ b = maskOf (b + 1) f := by rw [maskOf_succ, if_pos ht]
          rw [hnew] at hA14
          rw [wrap_of (by omega) (by omega)]
          refine ⟨⟨b + 1, by omega, by omega, hE14, by omega, (hb11.ext hE1213).stepT hA13 (by decide) hs14, hXk ((hX11.ext hE1213).chg (.of_step hs14 fun k hk => hk) hla'), _, hA14, by simpa using hAl', fun u hu => ?_, ?_, fun u h1 h2 => ?_, fun x hx => ?_⟩, by simp only []; omega⟩
          · rw [getD_setI (by omega), if_neg (by omega)]; exact hA1' u hu
          · rw [getD_setI (by omega), if_pos rfl]
          · rw [getD_setI (by omega), if_neg (by omega)]; exact hA2' u h1 h2
          · rcases List.mem_or_eq_of_mem_set hx with h1 | h1
            · exact hA3' x h1
            · rw [h1]
              have := maskOf_small (n := b + 1) (by omega) f
              unfold I64; omega
        · rw [wrap_of (by omega) (by omega)]
          exact ⟨⟨b + 1, by omega, by omega, hE11.trans hE12, by omega, hb11.ext hE12, hXk (hX11.ext hE12), A', hA11.ext hE12, hAl', hA1', by rw [hAk', maskOf_succ, hf]; simp, hA2', hA3'⟩, by simp only []; omega⟩
      · have : b = n := by omega
        subst this
        refine IN_next (by omega) hkN ⟨hE10, by omega, hb10, A', hA', hAl', fun u hu => ?_, fun u h1 h2 => hA2' u (by omega) h2, hA3'⟩
        by_cases hu2 : u = key
        · subst hu2; rw [hAk', htab]
        · exact hA1' u (by omega)
  · have : key = N := by omega
    subst this
    refine ⟨hE1.trans hE6, af, A, hb6, (hA.rep hA3).any, by rw [hAl, hn, hk, hNe], fun u hu => hA1 u (by omega)⟩

/-! ### Completing -/

theorem sets_labs {p : Prob} (hg : PGood p) {m : Nat} (hm : m < 2 ^ p.labels.toNat) : labsTo m p.labels.toNat = labsOf m := by
  rw [labsOf_eq]
  exact (labsTo_end hm 8 (by have := hg.lab; omega)).symm

theorem pow62 {p : Prob} (hg : PGood p) : 2 ^ p.labels.toNat < 4611686018427387904 := by have := two_lab hg; omega

theorem comp_ok {w0 : World} {c d s : Sl} {p : Prob} {S : List Int} {pa p0 p1 p2 p3 : Addr} {t0 t2 t3 : TypeId} (hg : PGood p) (hS : R w0 s S) (hSl : S.length = p.degree.toNat - 1) (hv : ∀ x ∈ S, ∃ m : Nat, x = m ∧ m < 2 ^ p.labels.toNat)
    (h0 : Box w0 p0 t0 [s.v]) (h2 : Box w0 p2 t2 [.pointer (some pa)]) (h3 : Box w0 p3 t3 [.func (.func F.ptr_i_nodeSets_completing_1) #[] #[.pointer (some p0), .pointer (some p1), .pointer (some p2), .pointer (some p3)]])
    (hD : ∀ w', Chg w0 w' (fun b => b = p1.block) → NS w' pa p c d ∧ R w' s S) (n0 : p0.block ≠ p1.block) (n2 : p2.block ≠ p1.block) (n3 : p3.block ≠ p1.block) :
    ∀ (n k : Nat), k + n = S.length → ∀ (w' : World) (pre : List Int) (m : Nat) (key weight : Int), Chg w0 w' (fun b => b = p1.block) → Box w' p1 T.t_int [.int .i64 m] → m < 2 ^ p.labels.toNat → pre.length = k → Dig p.labels.toNat pre → key = (valL p.labels.toNat pre : Nat) → weight = ((p.labels.toNat ^ k : Nat) : Int) →
      CALLV Tryz.prog (.func (.func F.ptr_i_nodeSets_completing_1) #[] #[.pointer (some p0), .pointer (some p1), .pointer (some p2), .pointer (some p3)]) #[.int .i64 k, .int .i64 key, .int .i64 weight] w' (Ret [] fun w'' => Chg w' w'' (fun b => b = p1.block) ∧ Box w'' p1 T.t_int [.int .i64 ((m &&& complG p (S.drop k) pre : Nat) : Int)]) := by
  have hlab := hg.lab
  have hdeg := hg.deg
  have h62 := pow62 hg
  have nb : ∀ {pa : Addr} {ta : TypeId} {cs : List Value} {w' : World}, Chg w0 w' (fun b => b = p1.block) → Box w0 pa ta cs → pa.block ≠ p1.block → Box w' pa ta cs := fun hC hB hn => hB.chg hC hn
  intro n
  induction n with
  | zero =>
    intro k hk w' pre m key weight hC hb1 hm hpl hdig hkey hwt
    refine CALLV_mk (by kernel_rfl) (C_ptr_i_nodeSets_completing_1 ?_)
    unfold V_ptr_i_nodeSets_completing_1
    refine LD_bs (nb hC h0 n0) ?_
    rw [hS.len]
    refine cond_eq (fun _ => ?_) (fun hne => absurd (by omega) hne)
    intro w1 hE1 _
    have hC1 := hC.trans (Chg.of_ext hE1)
    obtain ⟨⟨af, A, hbA, hRA, hAl, hAt⟩, _⟩ := hD w1 hC1
    have hb11 := hb1.ext hE1
    have hk : pre.length = p.degree.toNat - 1 := by omega
    have hvl := valL_lt hdig
    rw [hk, ← hAl] at hvl
    refine ⟨fun _ => False, fun h => h, LD_int (hb11.cell (i := 0) rfl) (LD_ptr ((nb hC1 h2 n2).cell (i := 0) rfl) ⟨Chg.refl _ _, Chg.refl _ _, Chg.refl _ _, LD_bs4 hbA ⟨Chg.refl _ _, ?_⟩⟩)⟩
    rw [hkey]
    refine hRA.ixI hvl fun q _ hc => ⟨Chg.refl _ _, LD_int hc ⟨Chg.refl _ _, ?_⟩⟩
    have hAv : A[valL p.labels.toNat pre] = (tabM p (valL p.labels.toNat pre) : Nat) := by rw [← hAt _ hvl]; simp [hvl]
    have htl : tabM p (valL p.labels.toNat pre) < 2 ^ p.labels.toNat := maskOf_lt _ _
    rw [hAv, and_nat (by omega) (by omega), ← complG_end hlab.1 hdig hk]
    refine ST_all hb11 (vs := [.int .i64 _]) (by intro v hv; simp at hv; subst hv; rfl) rfl fun w2 hs2 hz2 hb2 => ?_
    refine ⟨(Chg.of_ext hE1).trans (.of_step hs2 fun k hk => by cases hk; rfl), ?_⟩
    rw [List.drop_of_length_le (by omega)]
    exact hb2
  | succ n ih =>
    intro k hk w' pre m key weight hC hb1 hm hpl hdig hkey hwt
    have hkl : k < S.length := by omega
    refine CALLV_mk (by kernel_rfl) (C_ptr_i_nodeSets_completing_1 ?_)
    unfold V_ptr_i_nodeSets_completing_1
    refine LD_bs (nb hC h0 n0) ?_
    rw [hS.len]
    refine cond_eq (fun he => absurd he (by omega)) (fun _ => LD_ptr ((nb hC h2 n2).cell (i := 0) rfl) ?_)
    obtain ⟨⟨af, A, hbA, _, _, _⟩, _⟩ := hD w' hC
    refine LD_bi0 hbA ?_
    obtain ⟨t, ht, htl⟩ := hv _ (List.getElem_mem hkl)
    let H : Nat → Nat := fun i => m &&& complH p (S.drop (k + 1)) pre (labsTo t i)
    have hHlt : ∀ i, H i < 2 ^ p.labels.toNat := fun i => Nat.lt_of_le_of_lt Nat.and_le_left hm
    have hfin : H p.labels.toNat = m &&& complG p (S.drop k) pre := by
      show m &&& complH p (S.drop (k + 1)) pre (labsTo t p.labels.toNat) = _
      rw [sets_labs hg htl, List.drop_eq_getElem_cons hkl, ht, complG_cons, Int.toNat_natCast]
    rw [← hfin]
    refine ⟨fun x w'' => ∃ i : Nat, x = i ∧ i ≤ p.labels.toNat ∧ Chg w' w'' (fun b => b = p1.block) ∧ Box w'' p1 T.t_int [.int .i64 ((H i : Nat) : Int)], fun x _ => p.labels.toNat - x.toNat, ⟨0, rfl, Nat.zero_le _, Chg.refl _ _, ?_⟩, ?_⟩
    · have : H 0 = m := complH_nil p _ _ hm
      rw [this]; exact hb1
    rintro _ w3 ⟨i, rfl, hi, hC3, hb3⟩
    intros
    have hC03 := hC.trans hC3
    refine cond_dec (fun hlt => ?_) (fun hge => ?_)
    · have hil : i < p.labels.toNat := by omega
      refine LD_bs (nb hC03 h0 n0) ?_
      refine (hD w3 hC03).2.ixI hkl fun q _ hc => LD_int hc ⟨by omega, ?_⟩
      rw [ht, shr_set (by omega), bit_test (by omega)]
      have hHi := hHlt i
      have hnext : ∀ {w4 : World}, Chg w' w4 (fun b => b = p1.block) → Box w4 p1 T.t_int [.int .i64 ((H (i + 1) : Nat) : Int)] → (∃ i' : Nat, IntKind.i64.wrap ((i : Int) + 1) = i' ∧ i' ≤ p.labels.toNat ∧ Chg w' w4 (fun b => b = p1.block) ∧ Box w4 p1 T.t_int [.int .i64 ((H i' : Nat) : Int)]) ∧ p.labels.toNat - (IntKind.i64.wrap ((i : Int) + 1)).toNat < p.labels.toNat - ((i : Int)).toNat := fun {w4} h4 hb4 => by
        rw [wrap_of (by omega) (by omega)]
        exact ⟨⟨i + 1, by omega, hil, h4, hb4⟩, by omega⟩
      by_cases hbit : t.testBit i = true
      · rw [if_pos hbit]
        have hH1 : H (i + 1) = H i &&& complG p (S.drop (k + 1)) (pre ++ [(i : Int)]) := by
          show m &&& complH p (S.drop (k + 1)) pre (labsTo t (i + 1)) = _
          rw [labsTo_succ, if_pos hbit]
          exact complH_snoc p _ _ _ _ _
        refine cond_t rfl (LD_int (hb3.cell (i := 0) rfl) ?_)
        refine cond_ne (fun hne => ?_) (fun h0' => ?_)
        · intro w4 hE4 _
          have hC4 := hC3.trans (Chg.of_ext hE4)
          have hC04 := hC.trans hC4
          obtain ⟨⟨af4, A4, hbA4, _, _, _⟩, _⟩ := hD w4 hC04
          refine ⟨fun _ => False, fun h => h, LD_val ((nb hC04 h3 n3).cell (i := 0) rfl) (LD_ptr ((nb hC04 h2 n2).cell (i := 0) rfl) ⟨Chg.refl _ _, Chg.refl _ _, Chg.refl _ _, Chg.refl _ _, LD_bi0 hbA4 ⟨Chg.refl _ _, Chg.refl _ _, ?_⟩⟩)⟩
          have hpk : p.labels.toNat ^ k ≤ 512 ∧ p.labels.toNat ^ (k + 1) ≤ 512 := by
            have a1 : ∀ j, j ≤ 3 → p.labels.toNat ^ j ≤ 512 := fun j hj => by
              have b1 : p.labels.toNat ^ j ≤ 8 ^ j := Nat.pow_le_pow_left (by omega) j
              have b2 : 8 ^ j ≤ 8 ^ 3 := Nat.pow_le_pow_right (by decide) hj
              have b3 : 8 ^ 3 = 512 := by decide
              omega
            exact ⟨a1 k (by omega), a1 (k + 1) (by omega)⟩
          have hdig' := hdig.snoc hil
          have hval : valL p.labels.toNat (pre ++ [(i : Int)]) = valL p.labels.toNat pre + i * p.labels.toNat ^ k := by rw [valL_snoc, hpl, Int.toNat_natCast]
          have hvlt := valL_lt hdig'
          have hlen' : (pre ++ [(i : Int)]).length = k + 1 := by simp [hpl]
          rw [hlen', hval] at hvlt
          have e1 : (i : Int) * weight = ((i * p.labels.toNat ^ k : Nat) : Int) := by rw [hwt]; push_cast; rfl
          have e2 : weight * p.labels = ((p.labels.toNat ^ (k + 1) : Nat) : Int) := by
            have en : p.labels = ((p.labels.toNat : Nat) : Int) := by omega
            rw [hwt, Nat.pow_succ, Int.natCast_mul, ← en]
          have e3 : key + ((i * p.labels.toNat ^ k : Nat) : Int) = ((valL p.labels.toNat (pre ++ [(i : Int)]) : Nat) : Int) := by rw [hkey, hval]; omega
          have hb1' : i * p.labels.toNat ^ k ≤ 1000000 := by omega
          have hb2' : valL p.labels.toNat (pre ++ [(i : Int)]) ≤ 1000000 := by rw [hval]; omega
          rw [e1, wrapN hb1', e3, wrapN hb2', e2, wrapN (by omega), wrap_of (n := (k : Int) + 1) (by omega) (by omega)]
          refine callv (ih (k + 1) (by omega) w4 (pre ++ [(i : Int)]) (H i) _ _ hC04 (hb3.ext hE4) hHi hlen' hdig' rfl rfl) ?_
          rintro w5 ⟨hC5, hb5⟩
          refine hnext (hC4.trans hC5) ?_
          rw [hH1]; exact hb5
        · refine hnext hC3 ?_
          have h0'' : H i = 0 := by have : ((H i : Nat) : Int) = 0 := h0'; omega
          rw [hH1, h0'', Nat.zero_and]
          rw [h0''] at hb3
          exact hb3
      · rw [if_neg hbit]
        refine cond_f rfl (hnext hC3 ?_)
        have hH1 : H (i + 1) = H i := by
          show m &&& complH p (S.drop (k + 1)) pre (labsTo t (i + 1)) = _
          rw [labsTo_succ, if_neg hbit, List.append_nil]
        rw [hH1]; exact hb3
    · have : i = p.labels.toNat := by omega
      subst this
      exact ⟨hC3, hb3⟩

theorem completing_ok {w : World} {c d s : Sl} {p : Prob} {S : List Int} {pa : Addr} (hg : PGood p) (hNS : NS w pa p c d) (hS : R w s S) (hSl : S.length = p.degree.toNat - 1) (hv : ∀ x ∈ S, ∃ m : Nat, x = m ∧ m < 2 ^ p.labels.toNat) :
    Calls Tryz.prog F.ptr_i_nodeSets_completing #[.pointer (some pa), s.v] w (Ret [.at (.int .i64)] fun (x : Int) w' => x = complM p S ∧ Ext w w') := by
  refine C_ptr_i_nodeSets_completing ?_
  unfold V_ptr_i_nodeSets_completing
  have hlab := hg.lab
  have htwo := two_lab hg
  refine NEW_intro fun p2 w1 hp2 hs1 hE1 hb2 => NEW_intro fun p0 w2 hp0 hs2 hE2 hb0 => LD_ptr ((hb2.ext hE2).cell (i := 0) rfl) ?_
  have hE12 := hE1.trans hE2
  obtain ⟨af, A, hbA, _, _, _⟩ := hNS.ext hE12
  refine LD_bi0 hbA ⟨by omega, ?_⟩
  have en : p.labels = ((p.labels.toNat : Nat) : Int) := by omega
  have e1 : IntKind.i64.wrap (shlI .i64 1 p.labels - 1) = ((2 ^ p.labels.toNat - 1 : Nat) : Int) := by
    rw [en, shl_one (by omega), Int.toNat_natCast]
    have := Nat.two_pow_pos p.labels.toNat
    generalize 2 ^ p.labels.toNat = q at htwo this ⊢
    rw [wrap_of (by omega) (by omega)]; omega
  rw [e1]
  refine NEW_ST (zs := [.int .i64 0]) (vs := [.int .i64 _]) (by intro v hv; simp at hv; subst hv; rfl) rfl fun p1 w4 hp1 hE4 hb1 => ?_
  refine NEW_intro fun p3 w5 hp3 hs5 hE5 hb3' => ST_all hb3' (vs := [.func (.func F.ptr_i_nodeSets_completing_1) #[] #[.pointer (some p0), .pointer (some p1), .pointer (some p2), .pointer (some p3)]]) (by intro v hv; simp at hv; subst hv; rfl) rfl fun w6 hs6 hz6 hb3 => ?_
  have hE6 : Ext w4 w6 := hs6.ext0 hE5 fun k hk => by cases hk; omega
  have hE26 := hE4.trans hE6
  have hE06 := hE12.trans hE26
  have hz1 := hE1.size_le
  have hz2 := hE2.size_le
  have hz4 := hE4.size_le
  have hlt1 := hb1.lt
  refine LD_val (hb3.cell (i := 0) rfl) ?_
  have hnew : ∀ {w' : World}, Chg w6 w' (fun b => b = p1.block) → Ext w w' := fun hC => hC.ext0 hE06 fun k hk => by omega
  refine callv (comp_ok (pa := pa) (p1 := p1) hg (hS.ext hE06) hSl hv ((hb0.ext hE4).ext hE6) (((hb2.ext hE2).ext hE4).ext hE6) hb3 (fun w' hC => ⟨hNS.ext (hnew hC), hS.ext (hnew hC)⟩) (by omega) (by omega) (by omega) S.length 0 (by omega) w6 [] (2 ^ p.labels.toNat - 1) _ _ (Chg.refl _ _) (hb1.ext hE6) (Nat.sub_lt (Nat.two_pow_pos _) (by decide)) rfl (fun x hx => by cases hx) rfl (by simp)) ?_
  rintro w7 ⟨hC7, hb7⟩
  rw [List.drop_zero, full_and (complG_lt _ _ _)] at hb7
  refine LD_int (hb7.cell (i := 0) rfl) ⟨?_, hnew hC7⟩
  rw [complM_G]

/-! ### Full lists -/

theorem delete_ok {w : World} {base : Nat} {s : Sl} {l : List Int} (h : OwnL w base T.t_int s l) {i : Nat} (hi : i < l.length) (hl : l.length ≤ 1000) :
    Calls Tryz.prog F.slices_Delete_sl_int_int #[s.v, .int .i64 i, .int .i64 ((i : Int) + 1)] w (Ret [.at .sl] fun (r : Sl) w' => OwnL w' base T.t_int r (l.eraseIdx i) ∧ Step w w' s.v.ownBlock) := by
  rcases h.2.2 with ⟨hv, h0⟩ | ⟨g, cap, cur, hv, hb, hg, hle, hmx, hsz, htake⟩
  · have := h.1; omega
  · have htake' : cur.toList.take l.length = l.map (Value.int .i64) := by rw [← flatI, ← htake, h.1]; simp [Rep.sz]
    have hsv : s.v = .slice (some ⟨g, 0, none⟩) l.length cap := by rw [← h.1]; exact hv
    have hsc : s.a = some ⟨g, 0, none⟩ ∧ s.cap = cap := by simp [Sl.v] at hv; exact ⟨hv.1, hv.2⟩
    rw [hsv]
    have e1 : ((i : Int) + 1) = ((i + 1 : Nat) : Int) := by omega
    rw [e1]
    refine (Srt.slices_Delete_int g 0 cap i (i + 1) l w (holds_of_blockI hg htake') (by rw [← h.1]; exact hle) (by unfold maxLen at hmx; omega) (by omega) (by omega)).mono ?_
    rintro e w' ⟨rfl, n, rfl⟩
    have hgr : Go.Sort.putRow (Value.int .i64) (Go.Sort.ahead w n) g 0 (l.take i ++ l.drop (i + 1) ++ List.replicate (i + 1 - i) 0).toArray = Go.Sort.grow (Go.Sort.putRow (Value.int .i64) (Go.Sort.ahead w n) g 0 (l.take i ++ l.drop (i + 1) ++ List.replicate (i + 1 - i) 0).toArray) #[] := (Go.Sort.grow_empty _).symm
    rw [hgr]
    have hlen : (l.take i ++ l.drop (i + 1) ++ List.replicate (i + 1 - i) (0 : Int)).length = l.length := by simp; omega
    have hown := ownsRow_sortedI (w := w) (base := base) (g := g) (cap := cap) (n := n) (e := T.t_int) (os := #[]) (cur := cur) (ss := l) (ts := l.take i ++ l.drop (i + 1) ++ List.replicate (i + 1 - i) 0) hlen hb hg (by rw [← h.1]; exact hle) hmx hsz
    have hO : OwnL (Go.Sort.grow (Go.Sort.putRow (Value.int .i64) (Go.Sort.ahead w n) g 0 (l.take i ++ l.drop (i + 1) ++ List.replicate (i + 1 - i) 0).toArray) #[]) base T.t_int s (l.take i ++ l.drop (i + 1) ++ List.replicate (i + 1 - i) 0) := by
      refine ⟨by rw [hlen]; exact h.1, ?_⟩
      unfold Go.GX.Own
      rw [h.1, hsv, flatI]
      exact hown
    have hF := hO.front (k := l.length - 1) (by rw [hlen]; omega)
    have he : (l.take i ++ l.drop (i + 1) ++ List.replicate (i + 1 - i) (0 : Int)).take (l.length - 1) = l.eraseIdx i := by
      rw [List.take_append_of_le_length (by simp; omega), List.take_of_length_le (by simp; omega), List.eraseIdx_eq_take_drop_succ]
    rw [he] at hF
    have hrv : (Value.slice (some ⟨g, 0, none⟩) (l.length - (i + 1 - i)) cap) = (⟨s.a, l.length - 1, s.cap⟩ : Sl).v := by
      rw [hsc.1, hsc.2]
      show Value.slice (some ⟨g, 0, none⟩) (l.length - (i + 1 - i)) cap = Value.slice (some ⟨g, 0, none⟩) (l.length - 1) cap
      rw [show l.length - (i + 1 - i) = l.length - 1 by omega]
    rw [hrv]
    exact ⟨hF, Step.of_grown (grownBy_sortedI _)⟩

theorem isFull_ok {w : World} {c d s : Sl} {p : Prob} {l : List Int} {pa : Addr} (hg : PGood p) (hNS : NS w pa p c d) (hl : R w s l) (hll : l.length = p.degree.toNat) (hv : ∀ x ∈ l, ∃ m : Nat, x = m ∧ m < 2 ^ p.labels.toNat) :
    Calls Tryz.prog F.ptr_i_nodeSets_isFull #[.pointer (some pa), s.v] w (Ret [.at .bool] fun (x : Bool) w' => x = fullB p l ∧ Ext w w') := by
  refine C_ptr_i_nodeSets_isFull ?_
  unfold V_ptr_i_nodeSets_isFull
  have hdeg := hg.deg
  have htwo := two_lab hg
  have h64 := flat_ok hl
  rw [hl.len]
  refine ⟨IN l.length fun i w' => Ext w w' ∧ ∀ u, u < i → complM p (l.eraseIdx u) = l.getD u 0, MN l.length, IN_zero ⟨Ext.refl _, fun u hu => absurd hu (by omega)⟩, ?_⟩
  rintro _ w1 ⟨i, rfl, hi, hE1, hI⟩
  intros
  refine cond_dec (fun hlt => ?_) (fun hge => ?_)
  · have hi' : i < l.length := by omega
    intro w2 hE2 _
    have hE12 := hE1.trans hE2
    refine (hl.ext hE12).ixI hi' fun q _ hc => LD_int hc ?_
    refine call (clone_ok (hl.ext hE12) (by omega)) ?_
    rintro x w3 ⟨hE3, hO3⟩
    refine ⟨hE3, ?_⟩
    rw [wrap_of (by omega) (by omega)]
    refine call (delete_ok hO3 hi' (by omega)) ?_
    rintro y w4 ⟨hO4, hs4⟩
    have hE24 : Ext w2 w4 := hs4.ext0 hE3 fun k hk => (hO3.blk k hk).1
    refine ⟨hE24, ?_⟩
    have hsub : ∀ x ∈ l.eraseIdx i, x ∈ l := fun x hx => (List.eraseIdx_sublist l i).subset hx
    refine call (completing_ok hg (hNS.ext (hE12.trans hE24)) (hO4.rep fun x hx => h64 x (hsub x hx)).any (by rw [List.length_eraseIdx_of_lt hi', hll]) fun x hx => hv x (hsub x hx)) ?_
    rintro _ w5 ⟨rfl, hE5⟩
    have hE25 := hE24.trans hE5
    refine ⟨hE25, hE25, ?_⟩
    refine cond_ne (fun hne => ⟨?_, hE12.trans hE25⟩) (fun heq => ?_)
    · have : fullB p l = false := by
        cases hf : fullB p l with
        | false => rfl
        | true =>
          unfold fullB at hf
          rw [List.all_eq_true] at hf
          have := hf i (List.mem_range.2 hi')
          rw [beq_iff_eq] at this
          exact absurd (this.trans (by simp [hi'])) hne
      rw [this]
    · refine ⟨⟨i + 1, by omega, hi', hE12.trans hE25, fun u hu => ?_⟩, by unfold MN; omega⟩
      by_cases hui : u = i
      · subst hui
        have h1 : complM p (l.eraseIdx u) = l[u] := heq
        rw [h1]; simp [hi']
      · exact hI u (by omega)
  · have : i = l.length := by omega
    subst this
    refine ⟨?_, hE1⟩
    symm
    unfold fullB
    rw [List.all_eq_true]
    intro u hu
    rw [beq_iff_eq]
    exact hI u (List.mem_range.1 hu)

theorem nodeFull_conf (p : Prob) : ∀ l ∈ nodeFull p, SetL p.labels.toNat p.degree.toNat l := fun _ hl => (mem_nodeFull.1 hl).1

theorem pow_sets {p : Prob} (hg : PGood p) (hf : ¬ (p.degree = 4 ∧ 6 < p.labels)) : ∀ j, j ≤ p.degree.toNat - 1 → (2 ^ p.labels.toNat - 1) ^ j ≤ 262143 := fun j hj => by
  have hl := hg.lab
  have hd := hg.deg
  by_cases h4 : p.degree = 4
  · have h6 : p.labels.toNat ≤ 6 := by omega
    have h1 : 2 ^ p.labels.toNat ≤ 2 ^ 6 := Nat.pow_le_pow_right (by decide) h6
    have h2 : (2 : Nat) ^ 6 = 64 := by decide
    have h3 : (2 ^ p.labels.toNat - 1) ^ j ≤ 63 ^ j := Nat.pow_le_pow_left (by omega) j
    have h5 : 63 ^ j ≤ 63 ^ 3 := Nat.pow_le_pow_right (by decide) (by omega)
    have h7 : 63 ^ 3 = 250047 := by decide
    omega
  · have h1 := two_lab hg
    have h3 : (2 ^ p.labels.toNat - 1) ^ j ≤ 255 ^ j := Nat.pow_le_pow_left (by omega) j
    have h5 : 255 ^ j ≤ 255 ^ 2 := Nat.pow_le_pow_right (by decide) (by omega)
    have h7 : 255 ^ 2 = 65025 := by decide
    omega

/-- What the program makes of lists of numbers. -/
def fullsOf (p : Prob) (C : List (List Int)) : List (List Int) := (C.filter fun c => decide (complM p (c.map (· + 1)) ≠ 0) && fullB p (c.map (· + 1) ++ [complM p (c.map (· + 1))])).map fun c => sortI (c.map (· + 1) ++ [complM p (c.map (· + 1))])

theorem fulls_mem {p : Prob} {d : Nat} (hd : p.degree.toNat = d + 1) {l : List Int} : l ∈ fullsOf p (msets (2 ^ p.labels.toNat - 1) d) ↔ l ∈ nodeFull p := by
  rw [nodeFull_of hd]
  unfold fullsOf setLists
  rw [List.mem_map]
  constructor
  · rintro ⟨c, hc, rfl⟩
    rw [List.mem_filter, Bool.and_eq_true, decide_eq_true_eq] at hc
    exact ⟨_, List.mem_map.2 ⟨c, hc.1, rfl⟩, hc.2.1, hc.2.2, rfl⟩
  · rintro ⟨c, hc, h0, hf, rfl⟩
    obtain ⟨e, he, rfl⟩ := List.mem_map.1 hc
    exact ⟨e, by rw [List.mem_filter, Bool.and_eq_true, decide_eq_true_eq]; exact ⟨he, h0, hf⟩, rfl⟩

end Go.Proofs.YtaeledhbkdakcaaGreatDoor
end

section
/- Tables of node configurations, completing, full lists: the reference. -/
namespace Go.Proofs.YtaeledhbkdakcaaGreatDoor
open Go.GX Go.RowKit
set_option maxRecDepth 100000

/-- The table tells what is a node configuration. -/
def TB (w : World) (g : Sl) (p : Prob) : Prop := ∃ G : List Bool, R w g G ∧ G.length = p.labels.toNat ^ p.degree.toNat ∧ ∀ u, u < G.length → G.getD u false = nodeB p (digs p.labels.toNat p.degree.toNat u)

theorem TB.ext {w w' : World} {g : Sl} {p : Prob} (h : TB w g p) (hE : Ext w w') : TB w' g p := by
  obtain ⟨G, h1, h2⟩ := h
  exact ⟨G, h1.ext hE, h2⟩

theorem LD_iisss {w : World} {p : Addr} {t : TypeId} {x y : Int} {z u v : Sl} {r : List Value} {K : Int → Int → Sl → Sl → Sl → Prop} (hb : Box w p t (.int .i64 x :: .int .i64 y :: z.v :: u.v :: v.v :: r)) (hk : K x y z u v) : LD [.int .i64, .int .i64, .sl, .sl, .sl] p w K := by
  refine ⟨[.int .i64 x, .int .i64 y, z.v, u.v, v.v], rfl, fun i v hv => ?_, hk⟩
  match i, hv with
  | 0, hv => exact hb.cell (i := 0) hv
  | 1, hv => exact hb.cell (i := 1) hv
  | 2, hv => exact hb.cell (i := 2) hv
  | 3, hv => exact hb.cell (i := 3) hv
  | 4, hv => exact hb.cell (i := 4) hv
  | i + 5, hv => simp at hv
theorem one5p (x y : Int) (z u v : Sl) : ∀ a ∈ [Value.int .i64 x, .int .i64 y, z.v, u.v, v.v], a.oneCell' = true := by intro a ha; simp at ha; rcases ha with rfl | rfl | rfl | rfl | rfl <;> rfl

theorem dig_of {t n : Nat} (ht : t < 2 ^ n) : ∀ x ∈ labsOf t, ∃ a : Nat, x = a ∧ a < n := fun x hx => by
  obtain ⟨a, rfl, _, hb⟩ := mem_labsOf.1 hx
  refine ⟨a, rfl, ?_⟩
  rcases Nat.lt_or_ge a n with h | h
  · exact h
  · rw [Nat.testBit_lt_two_pow (Nat.lt_of_lt_of_le ht (Nat.pow_le_pow_right (by decide) h))] at hb
    cases hb

theorem rest_ok {p : Prob} (hg : PGood p) : ∀ (n : Nat) {w : World} {z u g s : Sl} {S pre : List Int}, S.length = n → TB w g p → R w s S → pre.length + S.length = p.degree.toNat - 1 → (∀ x ∈ S, ∃ m : Nat, x = m ∧ m < 2 ^ p.labels.toNat) → Dig p.labels.toNat pre →
    Calls Tryz.prog F.s_elTable_rest #[.agg #[.int .i64 p.labels, .int .i64 p.degree, z.v, u.v, g.v], s.v, .int .i64 (valL p.labels.toNat pre.reverse : Nat)] w (Ret [.at (.int .i64)] fun (x : Int) w' => x = (complG p S pre : Nat) ∧ Ext w w')
  | 0, w, z, u, g, s, S, pre, hn, hT, hS, hlen, hv, hd => by
    have hlab := hg.lab
    have hdeg := hg.deg
    have htwo := two_lab hg
    refine C_s_elTable_rest ?_
    unfold V_s_elTable_rest
    refine NEW_intro fun px w1 hpx hs1 hE1 hb1 => ?_
    rw [hS.len]
    refine cond_eq (fun _ => ?_) (fun hne => absurd (by omega) hne)
    have hnil : S = [] := List.eq_nil_of_length_eq_zero hn
    subst hnil
    obtain ⟨G, hG, hGl, hGt⟩ := hT.ext hE1
    let f : Nat → Bool := fun b => nodeB p (pre ++ [(b : Int)])
    have hcg : complG p [] pre = maskOf p.labels.toNat f := by unfold complG; apply maskOf_congr; intro b _; simp [prodL, f]
    refine ⟨fun (x y : Int) w' => ∃ b : Nat, y = b ∧ b ≤ p.labels.toNat ∧ x = (maskOf b f : Nat) ∧ w1 = w', fun _ y _ => p.labels.toNat - y.toNat, ⟨0, rfl, Nat.zero_le _, rfl, rfl⟩, ?_⟩
    rintro _ _ _ ⟨b, rfl, hb, rfl, rfl⟩
    intros
    refine LD_bi0 hb1 (cond_dec (fun hlt => LD_bs4 hb1 (LD_bi0 hb1 ?_)) (fun hge => ?_))
    · have hbn : b < p.labels.toNat := by omega
      have hds := (hd.snoc hbn).rev
      have hval : valL p.labels.toNat (pre ++ [(b : Int)]).reverse = b + p.labels.toNat * valL p.labels.toNat pre.reverse := by rw [List.reverse_append, List.reverse_cons, List.reverse_nil, List.nil_append, List.singleton_append, valL, Int.toNat_natCast]
      have hvl := valL_lt hds
      have hll : (pre ++ [(b : Int)]).reverse.length = p.degree.toNat := by simp; simp at hlen; omega
      rw [hll, ← hGl] at hvl
      have hGl' : G.length ≤ 4096 := by
        rw [hGl]
        have b1 : p.labels.toNat ^ p.degree.toNat ≤ 8 ^ p.degree.toNat := Nat.pow_le_pow_left (by omega) _
        have b2 : 8 ^ p.degree.toNat ≤ 8 ^ 4 := Nat.pow_le_pow_right (by decide) (by omega)
        have b3 : 8 ^ 4 = 4096 := by decide
        omega
      have en : p.labels = ((p.labels.toNat : Nat) : Int) := by omega
      have e1 : ((valL p.labels.toNat pre.reverse : Nat) : Int) * p.labels = ((p.labels.toNat * valL p.labels.toNat pre.reverse : Nat) : Int) := by
        rw [Int.natCast_mul, ← en, Int.mul_comm]
      have hb2 : p.labels.toNat * valL p.labels.toNat pre.reverse ≤ 1000000 := by omega
      have e2 : ((p.labels.toNat * valL p.labels.toNat pre.reverse : Nat) : Int) + (b : Int) = ((valL p.labels.toNat (pre ++ [(b : Int)]).reverse : Nat) : Int) := by rw [hval]; omega
      rw [e1, wrapN hb2, e2, wrapN (by omega)]
      refine hG.ixB hvl fun q hc => LD_bool hc ?_
      have hgv : G[valL p.labels.toNat (pre ++ [(b : Int)]).reverse] = f b := by
        have h1 := hGt _ hvl
        rw [← hll, digs_valL (by omega) hds] at h1
        have h2 : nodeB p (pre ++ [(b : Int)]).reverse = nodeB p (pre ++ [(b : Int)]) := nodeB_perm (List.reverse_perm _)
        rw [h2] at h1
        have h3 : G.getD (valL p.labels.toNat (pre ++ [(b : Int)]).reverse) false = f b := h1
        rw [← h3, List.getD_eq_getElem?_getD, List.getElem?_eq_getElem hvl]
        rfl
      rw [hgv]
      have hms := maskOf_small (n := b) (by omega) f
      refine cond_b (fun ht => ⟨by omega, ?_⟩) (fun hf => ?_)
      · have hadd := maskOf_add b f
        rw [if_pos ht] at hadd
        have h2 : 2 ^ b ≤ 2 ^ 8 := Nat.pow_le_pow_right (by decide) (by omega)
        have h3 : (2 : Nat) ^ 8 = 256 := by decide
        rw [shl_one (by omega)]
        generalize 2 ^ b = q at h2 hadd ⊢
        rw [wrap_of (n := _ + 1) (by omega) (by omega), wrap_of (by omega) (by omega)]
        refine ⟨⟨b + 1, by omega, by omega, ?_, rfl⟩, by simp only []; omega⟩
        rw [hadd]
        push_cast
        rfl
      · rw [wrap_of (by omega) (by omega)]
        refine ⟨⟨b + 1, by omega, by omega, ?_, rfl⟩, by simp only []; omega⟩
        rw [maskOf_add, hf]; simp
    · have : b = p.labels.toNat := by omega
      subst this
      exact ⟨by rw [hcg], hE1⟩
  | n + 1, w, z, u, g, s, S, pre, hn, hT, hS, hlen, hv, hd => by
    have hlab := hg.lab
    have hdeg := hg.deg
    have htwo := two_lab hg
    refine C_s_elTable_rest ?_
    unfold V_s_elTable_rest
    refine NEW_intro fun px w1 hpx hs1 hE1 hb1 => ?_
    rw [hS.len]
    refine cond_eq (fun he => absurd he (by omega)) (fun _ => LD_bi0 hb1 ⟨by omega, ?_⟩)
    match S, hn, hS, hlen, hv with
    | x :: S, hn, hS, hlen, hv =>
      refine (hS.ext hE1).ixI (i := 0) (by simp) fun q _ hc => LD_int hc ?_
      obtain ⟨t, ht, htl⟩ := hv x (by simp)
      simp only [List.getElem_cons_zero]
      rw [ht]
      refine call (elLabels_ok t w1) ?_
      rintro row w3 ⟨hE3, hO3⟩
      have hL64 := labsOf_I64 t
      have hR3 := (hO3.rep hL64).any
      rw [hR3.len]
      have hll := labsTo_len t 8
      have en : p.labels = ((p.labels.toNat : Nat) : Int) := by omega
      have e1 : IntKind.i64.wrap (shlI .i64 1 p.labels - 1) = ((2 ^ p.labels.toNat - 1 : Nat) : Int) := by
        rw [en, shl_one (by omega), Int.toNat_natCast]
        have := Nat.two_pow_pos p.labels.toNat
        generalize 2 ^ p.labels.toNat = q at htwo this ⊢
        rw [wrap_of (by omega) (by omega)]; omega
      rw [e1]
      have hfl : 2 ^ p.labels.toNat - 1 < 2 ^ p.labels.toNat := Nat.sub_lt (Nat.two_pow_pos _) (by decide)
      let H : Nat → Nat := fun j => (2 ^ p.labels.toNat - 1) &&& complH p S pre ((labsOf t).take j)
      have hHlt : ∀ j, H j < 2 ^ p.labels.toNat := fun j => Nat.lt_of_le_of_lt Nat.and_le_left hfl
      have hfin : H (labsOf t).length = complG p ((t : Int) :: S) pre := by
        show (2 ^ p.labels.toNat - 1) &&& complH p S pre ((labsOf t).take (labsOf t).length) = _
        rw [List.take_length, full_and (complH_lt _ _ _ _), complG_cons, Int.toNat_natCast]
      rw [← ht] at hfin
      refine ⟨fun (y q : Int) w' => ∃ j : Nat, q = j ∧ j ≤ (labsOf t).length ∧ y = (H j : Nat) ∧ Ext w3 w', fun _ q _ => (labsOf t).length - q.toNat, ⟨0, rfl, Nat.zero_le _, ?_, Ext.refl _⟩, ?_⟩
      · have : H 0 = 2 ^ p.labels.toNat - 1 := complH_nil p _ _ hfl
        rw [this]
      rintro _ _ w4 ⟨j, rfl, hj, rfl, hE4⟩
      intros
      have hl8 : (labsOf t).length ≤ 8 := hll
      refine cond_dec (fun hlt => ?_) (fun hge => ?_)
      · have hj' : j < (labsOf t).length := by omega
        refine (hR3.ext hE4).ixI hj' fun q _ hc => LD_int hc ?_
        obtain ⟨a, ha, han⟩ := dig_of htl _ (List.getElem_mem hj')
        have hH1 : H (j + 1) = H j &&& complG p S (pre ++ [(a : Int)]) := by
          show (2 ^ p.labels.toNat - 1) &&& complH p S pre ((labsOf t).take (j + 1)) = _
          rw [List.take_succ_eq_append_getElem hj', complH_snoc, ha]
        have hnext : ∀ {w5 : World} {y : Int}, Ext w4 w5 → y = (H (j + 1) : Nat) → (∃ j' : Nat, IntKind.i64.wrap ((j : Int) + 1) = j' ∧ j' ≤ (labsOf t).length ∧ y = (H j' : Nat) ∧ Ext w3 w5) ∧ (labsOf t).length - (IntKind.i64.wrap ((j : Int) + 1)).toNat < (labsOf t).length - ((j : Int)).toNat := fun {w5 y} h5 hy => by
          rw [wrap_of (by omega) (by omega)]
          exact ⟨⟨j + 1, by omega, hj', hy, hE4.trans h5⟩, by omega⟩
        refine cond_dec (fun hpos => ?_) (fun hz => ?_)
        · have hE14 := hE3.trans hE4
          refine LD_iisss (hb1.ext hE14) ?_
          refine slr_drop ((hS.ext hE1).ext hE14) (i := 1) (by simp) rfl fun s2 hs2 => LD_bi0 (hb1.ext hE14) ?_
          rw [List.drop_succ_cons, List.drop_zero] at hs2
          have hds := hd.snoc han
          have hval : valL p.labels.toNat (pre ++ [(a : Int)]).reverse = a + p.labels.toNat * valL p.labels.toNat pre.reverse := by rw [List.reverse_append, List.reverse_cons, List.reverse_nil, List.nil_append, List.singleton_append, valL, Int.toNat_natCast]
          have hvl := valL_lt hds.rev
          have hpl : (pre ++ [(a : Int)]).reverse.length ≤ 3 := by simp; simp at hlen; omega
          have hp3 : p.labels.toNat ^ (pre ++ [(a : Int)]).reverse.length ≤ 512 := by
            have b1 : p.labels.toNat ^ (pre ++ [(a : Int)]).reverse.length ≤ 8 ^ (pre ++ [(a : Int)]).reverse.length := Nat.pow_le_pow_left (by omega) _
            have b2 : 8 ^ (pre ++ [(a : Int)]).reverse.length ≤ 8 ^ 3 := Nat.pow_le_pow_right (by decide) hpl
            have b3 : 8 ^ 3 = 512 := by decide
            omega
          have e2 : ((valL p.labels.toNat pre.reverse : Nat) : Int) * p.labels = ((p.labels.toNat * valL p.labels.toNat pre.reverse : Nat) : Int) := by
            rw [Int.natCast_mul, ← en, Int.mul_comm]
          have hb2 : p.labels.toNat * valL p.labels.toNat pre.reverse ≤ 1000000 := by omega
          have e3 : ((p.labels.toNat * valL p.labels.toNat pre.reverse : Nat) : Int) + (a : Int) = ((valL p.labels.toNat (pre ++ [(a : Int)]).reverse : Nat) : Int) := by rw [hval]; omega
          rw [ha, e2, wrapN hb2, e3, wrapN (by omega)]
          refine QCALL_int ((complG p S (pre ++ [(a : Int)]) : Nat) : Int) (fun w' hE' => rest_ok hg n (by simpa using hn) ((hT.ext (hE1.trans hE14)).ext hE') (hs2.any.ext hE') (by simp; simp at hlen; omega) (fun y hy => hv y (List.mem_cons_of_mem _ hy)) hds) ?_
          intro w5 hE5
          have h1 := hHlt j
          have h2 := complG_lt p S (pre ++ [(a : Int)])
          refine hnext hE5 ?_
          rw [hH1, and_nat (by omega) (by omega)]
        · refine hnext (Ext.refl _) ?_
          have : H j = 0 := by omega
          rw [hH1, this, Nat.zero_and]
      · have : j = (labsOf t).length := by omega
        subst this
        exact ⟨by rw [hfin, ht], hE1.trans (hE3.trans hE4)⟩

theorem restM_ok {w : World} {p : Prob} {z u g s : Sl} {S : List Int} (hg : PGood p) (hT : TB w g p) (hS : R w s S) (hlen : S.length = p.degree.toNat - 1) (hv : ∀ x ∈ S, ∃ m : Nat, x = m ∧ m < 2 ^ p.labels.toNat) :
    Calls Tryz.prog F.s_elTable_rest #[.agg #[.int .i64 p.labels, .int .i64 p.degree, z.v, u.v, g.v], s.v, .int .i64 0] w (Ret [.at (.int .i64)] fun (x : Int) w' => x = complM p S ∧ Ext w w') := by
  have := rest_ok hg S.length (z := z) (u := u) (pre := []) rfl hT hS (by simpa using hlen) hv (fun x hx => by cases hx)
  rw [complM_G]
  exact this

theorem full_ok {w : World} {p : Prob} {z u g s : Sl} {l : List Int} (hg : PGood p) (hT : TB w g p) (hl : R w s l) (hll : l.length = p.degree.toNat) (hv : ∀ x ∈ l, ∃ m : Nat, x = m ∧ m < 2 ^ p.labels.toNat) :
    Calls Tryz.prog F.s_elTable_full #[.agg #[.int .i64 p.labels, .int .i64 p.degree, z.v, u.v, g.v], s.v] w (Ret [.at .bool] fun (x : Bool) w' => x = fullB p l ∧ Ext w w') := by
  refine C_s_elTable_full ?_
  unfold V_s_elTable_full
  have hdeg := hg.deg
  have h64 := flat_ok hl
  refine NEW_intro fun px w1 hpx hs1 hE1 hb1 => ?_
  rw [hl.len]
  refine ⟨IN l.length fun i w' => Ext w1 w' ∧ ∀ u, u < i → complM p (l.eraseIdx u) = l.getD u 0, MN l.length, IN_zero ⟨Ext.refl _, fun u hu => absurd hu (by omega)⟩, ?_⟩
  rintro _ w2 ⟨i, rfl, hi, hE2, hI⟩
  intros
  refine cond_dec (fun hlt => ?_) (fun hge => ?_)
  · have hi' : i < l.length := by omega
    have hE02 := hE1.trans hE2
    refine (hl.ext hE02).ixI hi' fun q _ hc => LD_int hc ?_
    intro w3 hE3 _
    have hE03 := hE02.trans hE3
    refine ⟨fun _ => False, SlR.take (hl.ext hE03) (i := i) (by omega) rfl fun s1 hs1' => ?_⟩
    have e1 : IntKind.i64.wrap ((i : Int) + 1) = ((i + 1 : Nat) : Int) := by rw [wrap_of (by omega) (by omega)]; omega
    rw [e1]
    refine slr_drop (hl.ext hE03) (i := i + 1) (by omega) rfl fun s2 hs2' => ?_
    refine call (l1Own_ok hs1'.any (by rw [List.length_take]; omega)) ?_
    rintro x w4 ⟨hE4, hO4⟩
    refine ⟨.of_ext hE4, ?_⟩
    refine RUN_append (α := Int) slt_int hO4 hE4.size_le (hs2'.any.ext hE4) (by simp; omega) (by simp [maxLen]; omega) fun y w5 hO5 hs5 => ?_
    have hE35 : Ext w3 w5 := hs5.ext0 hE4 fun k hk => (hO4.blk k hk).1
    refine ⟨.of_ext hE35, LD_iisss (hb1.ext (hE2.trans (hE3.trans hE35))) ?_⟩
    have he : l.take i ++ l.drop (i + 1) = l.eraseIdx i := (List.eraseIdx_eq_take_drop_succ ..).symm
    rw [he] at hO5
    have hsub : ∀ x ∈ l.eraseIdx i, x ∈ l := fun x hx => (List.eraseIdx_sublist l i).subset hx
    refine call (restM_ok hg (hT.ext (hE03.trans hE35)) (hO5.rep fun x hx => h64 x (hsub x hx)).any (by rw [List.length_eraseIdx_of_lt hi', hll]) fun x hx => hv x (hsub x hx)) ?_
    rintro _ w6 ⟨rfl, hE6⟩
    have hE26 := hE3.trans (hE35.trans hE6)
    refine cond_ne (fun hne => ⟨?_, hE02.trans hE26⟩) (fun heq => ?_)
    · have : fullB p l = false := by
        cases hf : fullB p l with
        | false => rfl
        | true =>
          unfold fullB at hf
          rw [List.all_eq_true] at hf
          have := hf i (List.mem_range.2 hi')
          rw [beq_iff_eq] at this
          exact absurd (this.trans (by simp [hi'])) hne
      rw [this]
    · refine ⟨⟨i + 1, by omega, hi', hE2.trans hE26, fun u hu => ?_⟩, by unfold MN; omega⟩
      by_cases hui : u = i
      · subst hui
        have h1 : complM p (l.eraseIdx u) = l[u] := heq
        rw [h1]; simp [hi']
      · exact hI u (by omega)
  · have : i = l.length := by omega
    subst this
    refine ⟨?_, hE1.trans hE2⟩
    symm
    unfold fullB
    rw [List.all_eq_true]
    intro u hu
    rw [beq_iff_eq]
    exact hI u (List.mem_range.1 hu)

/-! ### The table -/

def TIs (w : World) (p : Prob) (c d : Sl) (x y : Int) (z u g : Sl) (w' : World) : Prop := x = p.labels ∧ y = p.degree ∧ z = c ∧ u = d ∧ Ext w w' ∧ TB w' g p

theorem elTabled_k4_ok {w w0 : World} {c d g : Sl} {p : Prob} {pp px2 px : Addr} {base : Nat} (hg : PGood p) (hE : Ext w w0) (h : RProb w c d p) (hb1 : Box w0 pp T.t_i_Problem [.int .i64 p.labels, .int .i64 p.degree, c.v, d.v]) (hb2 : Box w0 px2 T.t_s_elTable [.int .i64 0, .int .i64 0, .slice none 0 0, .slice none 0 0, .slice none 0 0])
    (hb3 : Box w0 px T.t_s_elTable [.int .i64 p.labels, .int .i64 p.degree, c.v, d.v, g.v]) (hO : OwnL w0 base T.t_bool g (List.replicate (p.labels.toNat ^ p.degree.toNat) false)) (hp2 : w.heap.size ≤ px2.block) (hbase : px2.block < base) : V_s_elTabled_k4 (TIs w p c d) pp px2 px w0 := by
  unfold V_s_elTabled_k4
  have hlab := hg.lab
  have hdeg := hg.deg
  refine LD_bs4 hb3 ?_
  have hgl : g.len = p.labels.toNat ^ p.degree.toNat := by rw [hO.1]; simp
  rw [hgl]
  have hN : p.labels.toNat ^ p.degree.toNat ≤ 4096 := by
    have b1 : p.labels.toNat ^ p.degree.toNat ≤ 8 ^ p.degree.toNat := Nat.pow_le_pow_left (by omega) _
    have b2 : 8 ^ p.degree.toNat ≤ 8 ^ 4 := Nat.pow_le_pow_right (by decide) (by omega)
    have b3 : 8 ^ 4 = 4096 := by decide
    omega
  generalize hNe : p.labels.toNat ^ p.degree.toNat = N at *
  have hgo : ∀ b, oB g b → base ≤ b := fun b hb => (hO.blk b hb).1
  have hEb : ∀ {w' : World}, Chg w0 w' (oB g) → Ext w w' := fun hC => hC.ext0 hE fun k hk => by have := hgo k hk; omega
  have hbox : ∀ {w' : World} {pa : Addr} {t : TypeId} {cs : List Value}, Chg w0 w' (oB g) → Box w0 pa t cs → t ≠ T.t_bool → Box w' pa t cs := fun hC hB hn => hB.chg hC (hB.notOwn hO hn)
  refine ⟨IN N fun x w' => Chg w0 w' (oB g) ∧ ∃ G : List Bool, OwnL w' base T.t_bool g G ∧ G.length = N ∧ ∀ u, u < x → G.getD u false = nodeB p (digs p.labels.toNat p.degree.toNat u), MN N, IN_zero ⟨Chg.refl _ _, _, hO, by simp, fun u hu => absurd hu (by omega)⟩, ?_⟩
  rintro _ w1 ⟨x, rfl, hx, hC1, G, hG, hGl, hGt⟩
  intros
  refine cond_dec (fun hlt => ?_) (fun hge => ?_)
  · have hxN : x < N := by omega
    refine ⟨fun (l : Sl) (rest : Int) w' => ∃ j : Nat, j ≤ p.degree.toNat ∧ rest = ((x / p.labels.toNat ^ j : Nat) : Int) ∧ Ext w1 w' ∧ OwnL w' w1.heap.size T.t_int l (digs p.labels.toNat j x), fun l _ _ => p.degree.toNat - l.len, ⟨0, Nat.zero_le _, by simp, Ext.refl _, by simpa [digs] using OwnL.nil _ _ _⟩, ?_⟩
    rintro l _ w2 ⟨j, hj, rfl, hE2, hl⟩
    intros
    have hb12 := (hbox hC1 hb1 (by decide)).ext hE2
    refine LD_bi1 hb12 ?_
    have hll : l.len = j := by rw [hl.1, digs_len]
    rw [hll]
    have en : p.labels = ((p.labels.toNat : Nat) : Int) := by omega
    have hd64 : ∀ k, ∀ y ∈ digs p.labels.toNat k x, I64 y := fun k y hy => by
      obtain ⟨u, _, rfl⟩ := List.mem_map.1 hy
      have : x / p.labels.toNat ^ u % p.labels.toNat < p.labels.toNat := Nat.mod_lt _ (by omega)
      show I64 (((x / p.labels.toNat ^ u % p.labels.toNat : Nat)) : Int)
      generalize x / p.labels.toNat ^ u % p.labels.toNat = z at this
      unfold I64; omega
    refine cond_dec (fun hlt2 => LD_bi0 hb12 ⟨by omega, ?_⟩) (fun hge2 => ?_)
    · have em : Int.tmod ((x / p.labels.toNat ^ j : Nat) : Int) p.labels = ((x / p.labels.toNat ^ j % p.labels.toNat : Nat) : Int) := by rw [en, Int.ofNat_tmod, Int.toNat_natCast]
      have edv : Int.tdiv ((x / p.labels.toNat ^ j : Nat) : Int) p.labels = ((x / p.labels.toNat ^ (j + 1) : Nat) : Int) := by rw [en, ← Int.ofNat_tdiv, Int.toNat_natCast, Nat.div_div_eq_div_mul, Nat.pow_succ]
      rw [em]
      have hdj := hd64 (j + 1)
      rw [digs_succ] at hdj
      refine RUN_lit1 (α := Int) slt_int _ rfl (by decide) fun y w3 hE3 hO3 => ?_
      have hl3 := hl.ext hE3
      refine RUN_append (α := Int) slt_int hl3 (by have := hE2.size_le; have := hE3.size_le; omega) (hO3.rep (by intro z hz; exact hdj z (List.mem_append_right _ hz))).any (by simp [digs_len]; omega) (by simp [maxLen, digs_len]; omega) fun l' w4 hl4 hs4 => ?_
      have hE4 : Ext w1 w4 := hs4.ext0 (hE2.trans hE3) fun k hk => (hl3.blk k hk).1
      refine LD_bi0 ((hbox hC1 hb1 (by decide)).ext hE4) ⟨by omega, ?_⟩
      have hdv : x / p.labels.toNat ^ (j + 1) ≤ x := Nat.div_le_self _ _
      rw [edv, wrapN (by omega)]
      have hl'l : l'.len = j + 1 := by rw [hl4.1]; simp [digs_len]
      refine ⟨⟨j + 1, by omega, rfl, hE4, by rw [digs_succ]; exact hl4⟩, by simp only [hll, hl'l]; omega⟩
    · have hje : j = p.degree.toNat := by omega
      subst hje
      intro w3 hE3 _
      have hE13 := hE2.trans hE3
      have hC3 := hC1.trans (Chg.of_ext hE13)
      have hb33 := hbox hC3 hb3 (by decide)
      have hb13 := hbox hC3 hb1 (by decide)
      refine ⟨fun _ => False, fun h => h, LD_bs4 hb33 ⟨fun h => h, LD_iiss hb13 ⟨Chg.refl _ _, ?_⟩⟩⟩
      refine call (prNode_ok (h.ext ((hEb hC1).trans hE13)) ((hl.ext hE3).rep (hd64 _)).any (by rw [digs_len]; omega)) ?_
      rintro y w4 ⟨hy, hE4⟩
      have ey : y = nodeB p (digs p.labels.toNat p.degree.toNat x) := bool_of hy nodeB_iff
      refine ⟨.of_ext hE4, ?_⟩
      have hE14 := hE13.trans hE4
      have hG4 := hG.ext hE14
      refine IX_own hG4 (i := x) (by omega) rfl fun q hq => ?_
      refine ST_own hG4 (i := x) (by omega) hq y rfl fun w5 hG5 hs5 => ?_
      have hC5 : Chg w0 w5 (oB g) := (hC1.trans (Chg.of_ext hE14)).trans (.of_step hs5 fun k hk => hk)
      refine IN_next (by omega) hxN ⟨hC5, _, hG5, by simp [hGl], fun u hu => ?_⟩
      rw [ey]
      by_cases hux : u = x
      · subst hux
        rw [List.getD_eq_getElem?_getD, List.getElem?_set_self (by omega)]; rfl
      · rw [List.getD_eq_getElem?_getD, List.getElem?_set_ne (fun h => hux h.symm), ← List.getD_eq_getElem?_getD]
        exact hGt u (by omega)
  · have : x = N := by omega
    subst this
    refine LD_iisss (hbox hC1 hb3 (by decide)) ?_
    refine ST_all (hbox hC1 hb2 (by decide)) (one5p _ _ _ _ _) rfl fun w2 hs2 hz2 hb22 => LD_iisss hb22 ?_
    refine ⟨rfl, rfl, rfl, rfl, hs2.ext0 (hEb hC1) fun k hk => by cases hk; exact hp2, G, ?_, by rw [hGl, hNe], fun u hu => hGt u (by omega)⟩
    exact ((hG.rep fun _ _ => trivial).stepD hs2 fun b hb he => by cases he; omega).any

end Go.Proofs.YtaeledhbkdakcaaGreatDoor
end
