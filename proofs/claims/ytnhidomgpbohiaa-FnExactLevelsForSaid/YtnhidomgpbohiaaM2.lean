/- Own texts, merged: Copy, Mask, Good, Near, Dist, WalkPure, Values, Sorted, Edges, Col, Match, Sets, Max, Write, Mark, Lib, Order, RowsD, Mat, Conf, RootPure, WalkI1, RowsR, WalkS1, WalkS2, WalkI2. -/
import Derived.Test.YtnhidomgpbohiaaM1
import Derived.Laws.IdiomCopy
import Derived.RangeFuncBox
import Derived.RangeFuncLeaves
import Derived.Shelf.Abstract
import Derived.WalkKit
import Derived.OwnWalkIn
import Derived.TacticsInMore
import Derived.LoopNIn
import Derived.LoopIn
import Derived.Test.YtnhidomgpbohiaaProg
import Derived.Maps.AppendAt
set_option linter.unusedVariables false
section
/- Copying between slices, digits of numbers. No program is named here. -/
namespace Go.GX
open Go.RowKit

/-! ### Digits -/

theorem wrap_u64 {n : Int} (h0 : 0 ≤ n) (h1 : n < 18446744073709551616) : IntKind.u64.wrap n = n := by
  have e1 : (2 : Int) ^ 64 = 18446744073709551616 := rfl
  have hs : IntKind.u64.signed = false := rfl
  simp only [IntKind.wrap, IntKind.bits, hs, Bool.false_and, e1]
  rw [Int.emod_eq_of_lt h0 h1]; simp

theorem ofInt_toNat (n : Nat) (h : n < 18446744073709551616) : (BitVec.ofInt 64 (n : Int)).toNat = n := by
  rw [BitVec.toNat_ofInt]
  have : ((2 ^ 64 : Nat) : Int) = 18446744073709551616 := rfl
  rw [this]
  omega

theorem bitAnd_u64 (a b : Nat) (ha : a < 18446744073709551616) (hb : b < 18446744073709551616) : bitAnd .u64 a b = ((a &&& b : Nat) : Int) := by
  unfold bitAnd
  have h1 : (BitVec.ofInt IntKind.u64.bits (a : Int) &&& BitVec.ofInt IntKind.u64.bits (b : Int)).toNat = a &&& b := by
    show (BitVec.ofInt 64 (a : Int) &&& BitVec.ofInt 64 (b : Int)).toNat = a &&& b
    rw [BitVec.toNat_and, ofInt_toNat a ha, ofInt_toNat b hb]
  rw [h1]
  have := Nat.and_le_left (n := a) (m := b)
  exact wrap_u64 (by omega) (by omega)

theorem bitAnd_u64_low (a : Nat) (ha : a < 4294967296) : bitAnd .u64 a 4294967295 = a := by
  have := bitAnd_u64 a 4294967295 (by omega) (by omega)
  rw [show ((4294967295 : Nat) : Int) = 4294967295 from rfl] at this
  rw [this]
  congr 1
  have := Nat.and_two_pow_sub_one_eq_mod a 32
  rw [show (2 : Nat) ^ 32 - 1 = 4294967295 from rfl, show (2 : Nat) ^ 32 = 4294967296 from rfl] at this
  rw [this]
  exact Nat.mod_eq_of_lt ha

theorem shr_nat (k : IntKind) (a j : Nat) (hj : j ≤ k.bits) : shrI k a j = ((a / 2 ^ j : Nat) : Int) := by
  unfold shrI
  rw [Int.toNat_natCast, Nat.min_eq_left hj, Int.fdiv_eq_ediv_of_nonneg _ (Int.le_of_lt (Int.pow_pos (by decide)))]
  simp

/-! ### Cutting -/

/-- s[lo:] of a slice of the call's own. -/
theorem SLC_from {s : Sl} {lo : Nat} {sz : Nat} (hle : s.len ≤ s.cap) (hlo : lo ≤ s.len) {K : Sl → Prop}
    (hk : ∀ d : Sl, d.len = s.len - lo → (lo < s.len → d.a = s.a.map (·.add (lo * sz))) → K d) : SLC s (some (lo : Int)) none sz K := by
  refine ⟨by simp, by simp; omega, by simp; omega, hk _ ?_ ?_⟩
  · simp
  · intro hlt
    simp
    intro h; omega

theorem SLC_from' {s : Sl} {lo : Nat} {sz : Nat} (hle : s.len ≤ s.cap) (hlo : lo ≤ s.len) {K : Sl → Prop}
    (hk : ∀ d : Sl, d.len = s.len - lo → d.cap = s.cap - lo → (lo < s.len → d.a = s.a.map (·.add (lo * sz))) → K d) : SLC s (some (lo : Int)) none sz K := by
  refine ⟨by simp, by simp; omega, by simp; omega, hk _ ?_ ?_ ?_⟩
  · simp
  · simp
  · intro hlt
    simp
    intro h; omega

/-- s[:hi]. -/
theorem SLC_to {s : Sl} {hi : Nat} {sz : Nat} (hhi : hi ≤ s.cap) {K : Sl → Prop}
    (hk : ∀ d : Sl, d.len = hi → d.a = s.a → d.cap = s.cap → K d) : SLC s none (some (hi : Int)) sz K := by
  refine ⟨by simp, by simp, by simp; omega, hk _ (by simp) ?_ (by simp)⟩
  simp
  intro _
  cases s.a <;> simp [add_zero']

/-! ### copy -/

theorem flat1 {α : Type} [Flat α] (h1 : Rep.sz α = 1) (l : List α) : ∃ f : α → Value, l.flatMap Flat.cells = l.map f ∧ ∀ x ∈ l, Flat.cells x = [f x] := by
  refine ⟨fun x => (Flat.cells x).headD undef, ?_, ?_⟩
  · induction l with
    | nil => rfl
    | cons x r ih =>
      rw [List.flatMap_cons, List.map_cons, ih]
      have hx : (Flat.cells x).length = 1 := by rw [Flat.size]; exact h1
      match hc : Flat.cells x, hx with
      | [v], _ => rfl
  · intro x _
    have hx : (Flat.cells x).length = 1 := by rw [Flat.size]; exact h1
    match hc : Flat.cells x, hx with
    | [v], _ => simp [hc]

/-- copy(d, y): d a part, from place off on, of a slice of the call's own. -/
theorem RUN_copy {α : Type} [Flat α] (hα : Rep.sz α = 1) {P : Program} {t ti e : TypeId} {bytes : Nat} {z : Value} (hT : SlT P t e 1 bytes z) {w : World} {base : Nat} {s d y : Sl} {l m : List α} (h : OwnL w base e s l)
    {off : Nat} (hd : 0 < d.len → d.a = s.a.map (·.add off)) (hfit : off + d.len ≤ l.length) {D : Nat → Prop} (hy : SlR D w y m) {K : Int → World → Prop}
    (hk : ∀ w', OwnL w' base e s (l.take off ++ m.take d.len ++ l.drop (off + min m.length d.len)) → Step w w' s.v.ownBlock → w'.heap.size = w.heap.size → K ((min m.length d.len : Nat) : Int) w') :
    RUN P (.at (.int .i64)) (bsem .copy #[t, t] ti #[d.v, y.v]) w K := by
  obtain ⟨i, hi, hz0, hsz, hby⟩ := hT.parts
  have hs1 : (P.info? e).map (·.size) = some 1 := by rw [hi]; simp [hsz]
  have fin : ∀ n w', (Builtin.copy_ #[t, t] ti #[d.v, y.v]).run P w = .ok (goInt n) w' → K (n : Int) w' → RUN P (.at (.int .i64)) (bsem .copy #[t, t] ti #[d.v, y.v]) w K := by
    intro n w' hr hK
    unfold RUN
    show (match (Builtin.copy_ #[t, t] ti #[d.v, y.v]).run P w with | .ok v w' => _ | .halt _ _ => False)
    rw [hr]
    exact hK
  have hyl := hy.len
  by_cases hmin : min m.length d.len = 0
  · refine fin 0 w ?_ ?_
    · exact run_copy_none (P := P) w t t ti e d.a y.a d.len d.cap y.len y.cap hT.under hs1 (by rw [hyl]; exact hmin)
    · have := hk w ?_ (Step.refl _ _) rfl
      · rwa [hmin] at this
      · rw [hmin]
        have : m.take d.len = [] := by
          apply List.eq_nil_of_length_eq_zero; rw [List.length_take]; omega
        rw [this]
        simpa using h
  · have hm0 : 0 < m.length := by omega
    have hd0 : 0 < d.len := by omega
    rcases h.2.2 with ⟨hv, h0⟩ | ⟨g, cap, cur, hv, hb, hg, hle, hmx, hcs, htake⟩
    · have := h.1; omega
    · have hv' := hv
      simp [Sl.v] at hv
      obtain ⟨hsa, rfl⟩ := hv
      have hda : d.a = some ⟨g, off, none⟩ := by
        rw [hd hd0, hsa]
        simp only [Option.map_some, Addr.add]
        split <;> simp_all
      obtain ⟨ya, _, hya, _⟩ := hy.2.2 0 m[0] (by simp [hm0])
      obtain ⟨f, hf, hf1⟩ := flat1 hα m
      obtain ⟨fl, hfl, hl1⟩ := flat1 hα l
      have hsrc := hy.flat hya
      rw [hf] at hsrc
      have hll := h.1
      rw [hα] at hcs htake
      rw [hfl] at htake
      have hcsz : cur.size = s.cap := by omega
      have hone : ∀ v ∈ m.map f, v.oneCell' = true := by
        intro v hv
        obtain ⟨x, hx, rfl⟩ := List.mem_map.1 hv
        exact Flat.one x _ (by rw [hf1 x hx]; simp)
      have hr := run_copy_row (P := P) w t t ti e g off d.len d.cap ya y.len y.cap cur e ((m.map f).take d.len) hT.under hs1 hg (by rw [List.length_take, List.length_map, hyl]; exact Nat.min_comm _ _) (fun j v hj => hsrc j v (by
          rw [List.getElem?_take] at hj
          split at hj
          · exact hj
          · cases hj)) (by rw [List.length_take, List.length_map]; omega) (fun v hv => hone v (List.mem_of_mem_take hv))
      have hdv : d.v = .slice (some ⟨g, off, none⟩) d.len d.cap := by simp [Sl.v, hda]
      have hyv : y.v = .slice (some ya) y.len y.cap := by simp [Sl.v, hya]
      rw [← hdv, ← hyv] at hr
      have hlen : ((m.map f).take d.len).length = min m.length d.len := by rw [List.length_take, List.length_map]; exact Nat.min_comm _ _
      refine fin _ _ hr ?_
      rw [hlen]
      refine hk _ ?_ ⟨rfl, rfl, rfl, by simp, fun k _ hne => setRow_other _ _ _ _ (by intro he; subst he; exact hne (by rw [hv']; rfl))⟩ (by simp)
      refine ⟨?_, ?_, ?_⟩
      · simp only [List.length_append, List.length_take, List.length_drop]; omega
      · have hall : ∀ q : List α, (q.flatMap Flat.cells).length = q.length := by
          intro q
          obtain ⟨fq, hfq, _⟩ := flat1 hα q
          rw [hfq]; simp
        rw [hall, hα]
        simp only [List.length_append, List.length_take, List.length_drop]; omega
      · refine .inr ⟨g, s.cap, _, hv', hb, setRow_heap _ _ _ _ _ _ hg, hle, hmx, ?_, ?_⟩
        · rw [hα]
          simp only [List.size_toArray, List.length_append, List.length_take, List.length_drop, List.length_map, Array.length_toList]
          omega
        · rw [hα, Nat.mul_one]
          have e1 : (l.take off ++ m.take d.len ++ l.drop (off + min m.length d.len)).flatMap Flat.cells = (l.map fl).take off ++ (m.map f).take d.len ++ (l.map fl).drop (off + min m.length d.len) := by
            rw [List.flatMap_append, List.flatMap_append]
            have hsub : ∀ (q : List α) (g : α → Value), (∀ x ∈ q, Flat.cells x = [g x]) → q.flatMap Flat.cells = q.map g := by
              intro q g hq
              induction q with
              | nil => rfl
              | cons x r ih => rw [List.flatMap_cons, hq x (by simp), ih (fun y hy => hq y (by simp [hy]))]; rfl
            rw [hsub (l.take off) fl (fun x hx => hl1 x (List.mem_of_mem_take hx)), hsub (m.take d.len) f (fun x hx => hf1 x (List.mem_of_mem_take hx)), hsub (l.drop _) fl (fun x hx => hl1 x (List.mem_of_mem_drop hx)), List.map_take, List.map_take, List.map_drop]
          rw [e1]
          have hcl : (l.map fl) = cur.toList.take s.len := by rw [← htake, Nat.mul_one]
          rw [hcl]
          have hcl2 : cur.toList.length = s.cap := by simp [hcsz]
          apply List.ext_getElem?
          intro j
          simp only [List.getElem?_take, List.getElem?_append, List.getElem?_drop, List.length_append, List.length_take, List.length_map, hcl2]
          by_cases hj : j < s.len
          · by_cases h1 : j < off
            · have a1 : j < min off s.cap := by omega
              have a2 : j < min off s.cap + min d.len m.length := by omega
              have a3 : j < min off (min s.len s.cap) := by omega
              have a4 : j < min off (min s.len s.cap) + min d.len m.length := by omega
              simp only [hj, h1, a1, a2, a3, a4, if_true]
            · by_cases h2 : j < off + min m.length d.len
              · have a1 : ¬ j < min off s.cap := by omega
                have a2 : j < min off s.cap + min d.len m.length := by omega
                have a3 : ¬ j < min off (min s.len s.cap) := by omega
                have a4 : j < min off (min s.len s.cap) + min d.len m.length := by omega
                simp only [hj, a1, a2, a3, a4, if_true, if_false]
                rw [show j - min off s.cap = j - min off (min s.len s.cap) by omega]
              · have a2 : ¬ j < min off s.cap + min d.len m.length := by omega
                have a4 : ¬ j < min off (min s.len s.cap) + min d.len m.length := by omega
                simp only [hj, a2, a4, if_true, if_false]
                rw [show off + min m.length d.len + (j - (min off s.cap + min d.len m.length)) = j by omega, show off + min m.length d.len + (j - (min off (min s.len s.cap) + min d.len m.length)) = j by omega, if_pos hj]
          · have a4 : ¬ j < min off (min s.len s.cap) + min d.len m.length := by omega
            simp only [hj, a4, if_false]
            rw [if_neg (by omega)]

/-! ### clear, and the first part of a slice of the call's own -/

theorem OwnL.front {α : Type} [Flat α] {w : World} {base : Nat} {e : TypeId} {s : Sl} {l : List α} (h : OwnL w base e s l) {k : Nat} (hk : k ≤ l.length) : OwnL w base e ⟨s.a, k, s.cap⟩ (l.take k) := by
  have hlen : ∀ q : List α, (q.flatMap Flat.cells).length = q.length * Rep.sz α := by
    intro q
    induction q with
    | nil => simp
    | cons x r ih => rw [List.flatMap_cons, List.length_append, ih, Flat.size x, List.length_cons, Nat.succ_mul, Nat.add_comm]
  refine ⟨by simp; omega, ?_, ?_⟩
  · rw [hlen, List.length_take, Nat.min_eq_left hk]
  · rcases h.2.2 with ⟨hv, h0⟩ | ⟨g, cap, cur, hv, hb, hg, hle, hmx, hsz, htake⟩
    · simp [Sl.v] at hv
      have := h.1
      refine .inl ⟨?_, by simp only; omega⟩
      simp [Sl.v, hv.1]
      omega
    · have hv' := hv
      simp [Sl.v] at hv
      have hl := h.1
      refine .inr ⟨g, cap, cur, ?_, hb, hg, by simp only; omega, hmx, hsz, ?_⟩
      · simp [Sl.v, hv.1, hv.2]
      · have hk2 : ((l.take k).flatMap Flat.cells).length = k * Rep.sz α := by rw [hlen, List.length_take, Nat.min_eq_left hk]
        have e2 : (l.take k).flatMap Flat.cells = (l.flatMap Flat.cells).take (k * Rep.sz α) := by
          have e3 : l.flatMap Flat.cells = (l.take k).flatMap Flat.cells ++ (l.drop k).flatMap Flat.cells := by rw [← List.flatMap_append, List.take_append_drop]
          rw [e3, ← hk2, List.take_left]
        rw [e2, ← htake, List.take_take]
        have : k * Rep.sz α ≤ s.len * Rep.sz α := Nat.mul_le_mul_right _ (by omega)
        rw [Nat.min_eq_left this]

end Go.GX
end

section
/- Sets of labels by predicates; labels of a set, up to twelve. -/
namespace Go.Proofs.Ytnhidomgpbohiaa
open Go.GX Go.RowKit
set_option maxRecDepth 100000

noncomputable def maskP (n : Nat) (P : Nat → Prop) : Nat := by
  classical exact maskOf n fun a => decide (P a)
theorem testBit_maskP {n : Nat} {P : Nat → Prop} {a : Nat} : (maskP n P).testBit a = true ↔ a < n ∧ P a := by
  classical
  unfold maskP
  rw [testBit_maskOf]
  simp
theorem maskP_lt (n : Nat) (P : Nat → Prop) : maskP n P < 2 ^ n := maskOf_lt _ _
theorem maskP_small {n : Nat} (hn : n ≤ 12) (P : Nat → Prop) : maskP n P < 4096 := Nat.lt_of_lt_of_le (maskP_lt n P) (Nat.pow_le_pow_right (n := 2) (by decide) hn)
theorem maskP_eq {n : Nat} {P : Nat → Prop} {m : Nat} (hm : m < 2 ^ n) (h : ∀ a < n, m.testBit a = true ↔ P a) : m = maskP n P := by
  apply mask_ext hm (maskP_lt n P)
  intro a ha
  rw [Bool.eq_iff_iff, h a ha, testBit_maskP]
  exact ⟨fun hp => ⟨ha, hp⟩, fun hp => hp.2⟩
theorem maskP_congr {n : Nat} {P Q : Nat → Prop} (h : ∀ a < n, P a ↔ Q a) : maskP n P = maskP n Q :=
  maskP_eq (maskP_lt n P) fun a ha => by rw [testBit_maskP]; exact ⟨fun hp => (h a ha).1 hp.2, fun hq => ⟨ha, (h a ha).2 hq⟩⟩
theorem maskP_none {n : Nat} {P : Nat → Prop} (h : ∀ a < n, ¬ P a) : maskP n P = 0 := (maskP_eq (m := 0) (Nat.two_pow_pos n) fun a ha => by simp [h a ha]).symm
theorem maskP_zero {n : Nat} {P : Nat → Prop} (h : maskP n P = 0) : ∀ a < n, ¬ P a := fun a ha hp => by
  have := testBit_maskP.2 ⟨ha, hp⟩
  rw [h] at this
  simp at this
theorem maskP_or {n : Nat} (P Q : Nat → Prop) : maskP n P ||| maskP n Q = maskP n fun a => P a ∨ Q a := by
  refine maskP_eq (Nat.or_lt_two_pow (maskP_lt n P) (maskP_lt n Q)) fun a ha => ?_
  rw [Nat.testBit_or, Bool.or_eq_true, testBit_maskP, testBit_maskP]
  exact ⟨fun h => h.imp (·.2) (·.2), fun h => h.imp (fun h => ⟨ha, h⟩) (fun h => ⟨ha, h⟩)⟩
theorem maskP_and {n : Nat} (P Q : Nat → Prop) : maskP n P &&& maskP n Q = maskP n fun a => P a ∧ Q a := by
  refine maskP_eq (Nat.lt_of_le_of_lt Nat.and_le_left (maskP_lt n P)) fun a ha => ?_
  rw [Nat.testBit_and, Bool.and_eq_true, testBit_maskP, testBit_maskP]
  exact ⟨fun h => ⟨h.1.2, h.2.2⟩, fun h => ⟨⟨ha, h.1⟩, ha, h.2⟩⟩
theorem maskP_bit {n b : Nat} (hb : b < n) : 2 ^ b = maskP n fun a => a = b := by
  refine maskP_eq (Nat.pow_lt_pow_right (by decide) hb) fun a ha => ?_
  rw [Nat.testBit_two_pow]
  simp only [decide_eq_true_eq]
  exact ⟨fun h => h.symm, fun h => h.symm⟩

/-- The bit operations at sets. -/
theorem or_maskP {n : Nat} (hn : n ≤ 12) (P Q : Nat → Prop) : bitOr .i64 ((maskP n P : Nat) : Int) ((maskP n Q : Nat) : Int) = ((maskP n (fun a => P a ∨ Q a) : Nat) : Int) := by
  have h1 := maskP_small hn P
  have h2 := maskP_small hn Q
  rw [or_nat (by omega) (by omega), maskP_or]
theorem and_maskP {n : Nat} (hn : n ≤ 12) (P Q : Nat → Prop) : bitAnd .i64 ((maskP n P : Nat) : Int) ((maskP n Q : Nat) : Int) = ((maskP n (fun a => P a ∧ Q a) : Nat) : Int) := by
  have h1 := maskP_small hn P
  have h2 := maskP_small hn Q
  rw [and_nat (by omega) (by omega), maskP_and]
theorem shl_maskP {n b : Nat} (hn : n ≤ 12) (hb : b < n) : shlI .i64 1 (b : Int) = ((maskP n (fun a => a = b) : Nat) : Int) := by
  rw [shl_one (by omega), maskP_bit hb]
theorem shrM {m a : Nat} (ha : a ≤ 60) : shrI .i64 (m : Int) (a : Int) = ((m / 2 ^ a : Nat) : Int) := shr_nat .i64 m a (by show a ≤ 64; omega)
theorem bitM {m a : Nat} (hm : m < 4611686018427387904) : bitAnd .i64 ((m / 2 ^ a : Nat) : Int) 1 = if m.testBit a then 1 else 0 := by
  have h1 : m / 2 ^ a ≤ m := Nat.div_le_self _ _
  have h2 := and_nat (a := m / 2 ^ a) (b := 1) (by omega) (by omega)
  have e : ((1 : Nat) : Int) = 1 := rfl
  rw [e] at h2
  rw [h2, Nat.and_one_is_mod, Nat.testBit_eq_decide_div_mod_eq]
  have h3 : m / 2 ^ a % 2 < 2 := Nat.mod_lt _ (by decide)
  by_cases h : m / 2 ^ a % 2 = 1
  · simp [h]
  · have : m / 2 ^ a % 2 = 0 := by omega
    simp [this]
/-- set>>a&1 -/
theorem bit_maskP {n a : Nat} (hn : n ≤ 12) (ha : a < n) (P : Nat → Prop) [Decidable (P a)] : bitAnd .i64 (shrI .i64 ((maskP n P : Nat) : Int) (a : Int)) 1 = if P a then 1 else 0 := by
  have h1 := maskP_small hn P
  rw [shrM (by omega), bitM (by omega)]
  by_cases hp : P a
  · rw [if_pos hp, if_pos (testBit_maskP.2 ⟨ha, hp⟩)]
  · rw [if_neg hp, if_neg fun h => hp (testBit_maskP.1 h).2]

/-! ### The labels of a set -/

def labsN (m a : Nat) : List Int := ((List.range a).filter fun a => m.testBit a).map fun (a : Nat) => (a : Int)
def labs (m : Nat) : List Int := labsN m 12
theorem labsN_succ (m a : Nat) : labsN m (a + 1) = labsN m a ++ (if m.testBit a then [(a : Int)] else []) := by
  unfold labsN
  rw [List.range_succ, List.filter_append, List.map_append]
  by_cases h : m.testBit a = true
  · simp [h]
  · simp [h]
theorem labsN_end {m a : Nat} (h : m < 2 ^ a) : ∀ b, a ≤ b → labsN m b = labsN m a := by
  intro b hb
  induction b with
  | zero => have : a = 0 := by omega
            subst this; rfl
  | succ b ih =>
    by_cases he : a = b + 1
    · rw [he]
    · have hab : a ≤ b := by omega
      have h2 : m < 2 ^ b := Nat.lt_of_lt_of_le h (Nat.pow_le_pow_right (by decide) hab)
      rw [labsN_succ, Nat.testBit_lt_two_pow h2, ih hab]
      simp
theorem mem_labs {m : Nat} {x : Int} : x ∈ labs m ↔ ∃ a : Nat, x = a ∧ a < 12 ∧ m.testBit a = true := by
  unfold labs labsN
  rw [List.mem_map]
  constructor
  · rintro ⟨a, ha, rfl⟩
    rw [List.mem_filter, List.mem_range] at ha
    exact ⟨a, rfl, ha.1, ha.2⟩
  · rintro ⟨a, rfl, h1, h2⟩
    exact ⟨a, List.mem_filter.2 ⟨List.mem_range.2 h1, h2⟩, rfl⟩
theorem labs_sorted (m : Nat) : (labs m).Pairwise (· < ·) := by
  unfold labs labsN
  rw [List.pairwise_map]
  exact (List.pairwise_lt_range.filter _).imp fun h => by omega
theorem mem_labsP {n : Nat} (hn : n ≤ 12) {P : Nat → Prop} {x : Int} : x ∈ labs (maskP n P) ↔ ∃ a : Nat, x = a ∧ a < n ∧ P a := by
  rw [mem_labs]
  constructor
  · rintro ⟨a, h1, _, h3⟩
    obtain ⟨h4, h5⟩ := testBit_maskP.1 h3
    exact ⟨a, h1, h4, h5⟩
  · rintro ⟨a, h1, h2, h3⟩
    exact ⟨a, h1, by omega, testBit_maskP.2 ⟨h2, h3⟩⟩
theorem labs_I64 (m : Nat) : ∀ x ∈ labs m, I64 x := fun x hx => by
  obtain ⟨a, rfl, h, _⟩ := mem_labs.1 hx
  unfold I64; omega
theorem labsN_len (m a : Nat) : (labsN m a).length ≤ a := by
  unfold labsN
  rw [List.length_map]
  have := List.length_filter_le (fun a => m.testBit a) (List.range a)
  rwa [List.length_range] at this
theorem labs_len (m : Nat) : (labs m).length ≤ 12 := labsN_len m 12
theorem divM_zero {m a : Nat} : m / 2 ^ a = 0 ↔ m < 2 ^ a := by
  rw [Nat.div_eq_zero_iff]
  have := Nat.two_pow_pos a
  omega

theorem labels12_ok {m : Nat} (hm : m < 4096) (w : World) :
    Calls Try.prog F.i_labelsIn #[.int .i64 m] w (Ret [.at .sl] fun (r : Sl) w' => Ext w w' ∧ OwnL w' w.heap.size T.t_int r (labs m)) := by
  refine C_i_labelsIn ?_
  unfold V_i_labelsIn
  refine ⟨fun (out : Sl) (x : Int) w' => ∃ a : Nat, x = a ∧ a ≤ 12 ∧ Ext w w' ∧ OwnL w' w.heap.size T.t_int out (labsN m a), fun _ x _ => 12 - x.toNat, ⟨0, rfl, by omega, Ext.refl _, OwnL.nil _ _ _⟩, ?_⟩
  rintro out _ w1 ⟨a, rfl, ha, hE1, hO⟩
  intros
  rw [shrM (by omega)]
  refine ⟨by omega, cond_ne (fun hne => ⟨by omega, ?_⟩) (fun heq => ?_)⟩
  · have ha8 : a < 12 := by
      have h1 : m / 2 ^ a ≠ 0 := fun h => hne (by rw [h]; rfl)
      rcases Nat.lt_or_eq_of_le ha with h | h
      · exact h
      · subst h; exact absurd (divM_zero.2 (by omega)) h1
    rw [bitM (by omega)]
    have hlen := labsN_len m a
    have hz := hE1.size_le
    by_cases hb : m.testBit a = true
    · rw [if_pos hb]
      refine cond_t (by rfl) ?_
      refine RUN_lit1 (α := Int) slt_int _ rfl (by decide) fun x w2 hE2 hO2 => ?_
      have hO1 := hO.ext hE2
      refine RUN_append (α := Int) slt_int hO1 (by have := hE2.size_le; omega) (hO2.rep (by intro x hx; rw [List.mem_singleton.1 hx]; show I64 _; unfold I64; omega)).any (by simp; omega) (by simp [maxLen]; omega) fun r w3 hO3 hs3 => ?_
      rw [wrap_of (by omega) (by omega)]
      refine ⟨⟨a + 1, by omega, by omega, hs3.ext0 (hE1.trans hE2) fun k hk => (hO1.blk k hk).1, ?_⟩, by simp only []; omega⟩
      rw [labsN_succ, if_pos hb]; exact hO3
    · rw [if_neg hb]
      refine cond_f (by rfl) ?_
      rw [wrap_of (by omega) (by omega)]
      refine ⟨⟨a + 1, by omega, by omega, hE1, ?_⟩, by simp only []; omega⟩
      rw [labsN_succ, if_neg hb, List.append_nil]; exact hO
  · have h1 : m / 2 ^ a = 0 := by have : ((m / 2 ^ a : Nat) : Int) = 0 := heq; omega
    have e := labsN_end (divM_zero.1 h1) 12 ha
    unfold labs
    rw [e]
    exact ⟨hE1, hO⟩

end Go.Proofs.Ytnhidomgpbohiaa
end

section
/- When a network is a network: both sides' tests, and the laws' tests of nodes and ports. -/
namespace Go.Proofs.Ytnhidomgpbohiaa
open Go.GX Go.RowKit
set_option maxRecDepth 100000

abbrev Ends := List (List (Int × Int))

/-- The far end of port i of node v. -/
def port (E : Ends) (v i : Nat) : Option (Int × Int) := (E[v]?).bind (·[i]?)

theorem port_get {E : Ends} {v i : Nat} (hv : v < E.length) (hi : i < E[v].length) : port E v i = some E[v][i] := by
  simp [port, hv, hi]

theorem port_some {E : Ends} {v i : Nat} {e : Int × Int} (h : port E v i = some e) : ∃ (hv : v < E.length) (hi : i < E[v].length), E[v][i] = e := by
  unfold port at h
  by_cases hv : v < E.length
  · by_cases hi : i < E[v].length
    · simp [hv, hi] at h; exact ⟨hv, hi, h⟩
    · simp [hv, hi] at h
  · simp [hv] at h

/-- The far end leads back. -/
def Back (E : Ends) (v i : Nat) (e : Int × Int) : Prop := ∃ a b : Nat, e = ((a : Int), (b : Int)) ∧ port E a b = some ((v : Int), (i : Int))

def RowOk (E : Ends) (v : Nat) : Prop := (∀ r, E[v]? = some r → r.length ≤ 6) ∧ ∀ i e, port E v i = some e → Back E v i e

structure Good (n : Net) : Prop where
  size : 1 ≤ n.ends.length ∧ n.ends.length ≤ 40
  ids : IdsOk n.ids n.ends.length
  inputs : n.inputs.length = n.ends.length ∧ AllIn n.inputs 0 9
  rows : ∀ v < n.ends.length, RowOk n.ends v

theorem Good.deg {n : Net} (h : Good n) {v : Nat} (hv : v < n.ends.length) : n.ends[v].length ≤ 6 := (h.rows v hv).1 _ (by simp [hv])
theorem Good.back {n : Net} (h : Good n) {v i : Nat} (hv : v < n.ends.length) (hi : i < n.ends[v].length) : Back n.ends v i n.ends[v][i] := (h.rows v hv).2 i _ (port_get hv hi)

/-- Port numbers as whole numbers. -/
def portZ (E : Ends) (v i : Int) : Option (Int × Int) := if 0 ≤ v ∧ 0 ≤ i then port E v.toNat i.toNat else none

/-- Two answers of a test: the answer, and whether it was asked rightly. -/
def Ans2 (g p : Prop) (x ok : Bool) : Prop := (x = true ↔ g ∧ p) ∧ (ok = true ↔ g)

theorem Ans2.eq {g p : Prop} {x ok x' ok' : Bool} (h : Ans2 g p x ok) (h' : Ans2 g p x' ok') : x = x' ∧ ok = ok' :=
  ⟨Bool.eq_iff_iff.2 (h.1.trans h'.1.symm), Bool.eq_iff_iff.2 (h.2.trans h'.2.symm)⟩

theorem Ans2.no {g p : Prop} (h : ¬ g) : Ans2 g p false false := ⟨by simp [h], by simp [h]⟩
theorem Ans2.mk {g p : Prop} {x : Bool} (h : g) (hx : x = true ↔ p) : Ans2 g p x true := ⟨by simp [h, hx], by simp [h]⟩

end Go.Proofs.Ytnhidomgpbohiaa
end

section
/- What a node's neighbours bear: both sides' walks over ports; the tests IsDefective and IsWeak. -/
namespace Go.Proofs.Ytnhidomgpbohiaa
open Go.GX Go.RowKit
set_option maxRecDepth 100000

def rowOf (E : Ends) (v : Nat) : List (Int × Int) := E.getD v []
theorem rowOf_get {E : Ends} {v : Nat} (h : v < E.length) : rowOf E v = E[v] := by simp [rowOf, h]

/-- What lies at the far ends of a node's ports. -/
def nearOf (E : Ends) (l : List Int) (v : Nat) : List Int := (rowOf E v).map fun e => l.getD e.1.toNat 0
/-- The nodes at the far ends of a node's ports. -/
def adjOf (E : Ends) (v : Nat) : List Int := (rowOf E v).map (·.1)

theorem Good.far {n : Net} (hg : Good n) {v i : Nat} (hv : v < n.ends.length) (hi : i < n.ends[v].length) : ∃ x y : Nat, n.ends[v][i] = ((x : Int), (y : Int)) ∧ x < n.ends.length ∧ port n.ends x y = some ((v : Int), (i : Int)) := by
  obtain ⟨x, y, hxy, hb⟩ := hg.back hv hi
  obtain ⟨hx, _⟩ := port_some hb
  exact ⟨x, y, hxy, hx, hb⟩

theorem adj_len {n : Net} (_ : Good n) {v : Nat} (hv : v < n.ends.length) : (adjOf n.ends v).length = n.ends[v].length := by
  unfold adjOf; rw [rowOf_get hv]; simp

theorem near_adj (E : Ends) (l : List Int) (v : Nat) : nearOf E l v = (adjOf E v).map fun u => l.getD u.toNat 0 := by
  unfold nearOf adjOf; rw [List.map_map]; rfl

/-! ### Colours -/

structure ColoursOk (n : Net) (l : List Int) : Prop where
  good : Good n
  len : l.length = n.ends.length
  all : AllIn l 0 1000000000000

/-! ### IsDefective -/

/-! ### IsWeak -/

end Go.Proofs.Ytnhidomgpbohiaa
end

section
/- Distances in a network, and the search that finds them, in plain words: no program in sight. -/
namespace Go.Proofs.Ytnhidomgpbohiaa

/-- A walk of k steps from v to x. -/
def Reach (E : Ends) (v : Nat) : Nat → Nat → Prop
  | 0, x => x = v
  | k + 1, x => ∃ y, Reach E v k y ∧ (x : Int) ∈ adjOf E y

/-- The list of all distances from v: -1 where no walk leads. -/
structure Dists (E : Ends) (v : Nat) (D : List Int) : Prop where
  len : D.length = E.length
  low : ∀ u, -1 ≤ D.getD u (-1)
  sound : ∀ u d : Nat, D.getD u (-1) = d → Reach E v d u
  least : ∀ k x, Reach E v k x → 0 ≤ D.getD x (-1) ∧ D.getD x (-1) ≤ k

theorem Dists.eq {E : Ends} {v : Nat} {D D' : List Int} (h : Dists E v D) (h' : Dists E v D') : D = D' := by
  have key : ∀ {A B : List Int}, Dists E v A → Dists E v B → ∀ u, 0 ≤ A.getD u (-1) → 0 ≤ B.getD u (-1) ∧ B.getD u (-1) ≤ A.getD u (-1) := by
    intro A B hA hB u hu
    obtain ⟨d, hd⟩ := Int.eq_ofNat_of_zero_le hu
    have := hB.least d u (hA.sound u d hd)
    rw [hd]
    exact this
  apply List.ext_getElem (by rw [h.len, h'.len])
  intro i h1 h2
  have e1 : D.getD i (-1) = D[i] := by simp [h1]
  have e2 : D'.getD i (-1) = D'[i] := by simp [h2]
  rw [← e1, ← e2]
  have l1 := h.low i
  have l2 := h'.low i
  by_cases hu : 0 ≤ D.getD i (-1)
  · have k1 := key h h' i hu
    have k2 := key h' h i k1.1
    omega
  · by_cases hu' : 0 ≤ D'.getD i (-1)
    · have k2 := key h' h i hu'
      omega
    · omega

/-- The distance of the queue's i-th node. -/
def dv (D W : List Int) (i : Nat) : Int := D.getD (W.getD i 0).toNat (-1)

/-- The search's state: the nodes found so far, in order; their distances; how many have been looked at. -/
structure Bfs (E : Ends) (v : Nat) (W D : List Int) (k : Nat) : Prop where
  len : D.length = E.length
  le : k ≤ W.length
  nodes : ∀ x ∈ W, ∃ u : Nat, x = u ∧ u < E.length
  nodup : W.Nodup
  mem : ∀ u : Nat, u < E.length → ((u : Int) ∈ W ↔ 0 ≤ D.getD u (-1))
  root : (v : Int) ∈ W
  zero : D.getD v (-1) = 0
  low : ∀ u, -1 ≤ D.getD u (-1)
  sound : ∀ u d : Nat, D.getD u (-1) = d → Reach E v d u
  mono : ∀ i j, i ≤ j → j < W.length → dv D W i ≤ dv D W j
  cap : k < W.length → ∀ j < W.length, dv D W j ≤ dv D W k + 1
  done : ∀ i < k, ∀ u : Nat, (u : Int) ∈ adjOf E (W.getD i 0).toNat → 0 ≤ D.getD u (-1) ∧ D.getD u (-1) ≤ dv D W i + 1
  small : ∀ u, D.getD u (-1) < W.length

theorem getD_set {D : List Int} {y : Nat} (hy : y < D.length) (x : Int) (u : Nat) : (D.set y x).getD u (-1) = if u = y then x else D.getD u (-1) := by
  by_cases h : u = y
  · subst h; simp [hy]
  · simp [h, List.getElem?_set_ne (Ne.symm h)]

section
variable {E : Ends} {v k : Nat} {W D : List Int}

theorem Bfs.node (h : Bfs E v W D k) {i : Nat} (hi : i < W.length) : ∃ u : Nat, W[i] = u ∧ W.getD i 0 = u ∧ u < E.length ∧ 0 ≤ D.getD u (-1) ∧ dv D W i = D.getD u (-1) := by
  obtain ⟨u, hu, hul⟩ := h.nodes W[i] (List.getElem_mem hi)
  have hg : W.getD i 0 = u := by simp [hi, hu]
  refine ⟨u, hu, hg, hul, (h.mem u hul).1 (by rw [← hu]; exact List.getElem_mem hi), ?_⟩
  unfold dv
  rw [hg]
  simp

/-- A neighbour that is found now. -/
theorem Bfs.add (h : Bfs E v W D k) (hk : k < W.length) {y : Nat} (hy : y < E.length) (ha : (y : Int) ∈ adjOf E (W.getD k 0).toNat) (hn : D.getD y (-1) < 0) :
    Bfs E v (W ++ [(y : Int)]) (D.set y (dv D W k + 1)) k := by
  have hyD : y < D.length := by rw [h.len]; exact hy
  have hg := getD_set hyD (dv D W k + 1)
  obtain ⟨c, _, hck, hcl, hc0, hcd⟩ := h.node hk
  have hdk : 0 ≤ dv D W k := by omega
  have hold : ∀ i, i < W.length → (W ++ [(y : Int)]).getD i 0 = W.getD i 0 := by
    intro i hi
    simp [List.getElem?_append_left hi]
  have hnew : (W ++ [(y : Int)]).getD W.length 0 = y := by simp
  have hdo : ∀ i, i < W.length → dv (D.set y (dv D W k + 1)) (W ++ [(y : Int)]) i = dv D W i := by
    intro i hi
    obtain ⟨u, _, hu, _, hu0, hud⟩ := h.node hi
    show (D.set y (dv D W k + 1)).getD ((W ++ [(y : Int)]).getD i 0).toNat (-1) = D.getD (W.getD i 0).toNat (-1)
    rw [hold i hi, hu, hg]
    simp only [Int.toNat_natCast]
    rw [if_neg (fun he => by subst he; omega)]
  have hdn : dv (D.set y (dv D W k + 1)) (W ++ [(y : Int)]) W.length = dv D W k + 1 := by
    show (D.set y (dv D W k + 1)).getD ((W ++ [(y : Int)]).getD W.length 0).toNat (-1) = _
    rw [hnew, hg]; simp
  have hyW : (y : Int) ∉ W := fun hm => by have := (h.mem y hy).1 hm; omega
  refine ⟨by simp [h.len], by have := h.le; simp; omega, ?_, ?_, ?_, by simp [h.root], ?_, ?_, ?_, ?_, ?_, ?_, ?_⟩
  · intro x hx
    rcases List.mem_append.1 hx with h1 | h1
    · exact h.nodes x h1
    · exact ⟨y, by simpa using h1, hy⟩
  · rw [List.nodup_append]
    refine ⟨h.nodup, by simp, fun a ha b hb hab => ?_⟩
    rw [List.mem_singleton.1 hb] at hab
    subst hab
    exact hyW ha
  · intro u hu
    rw [hg, List.mem_append, h.mem u hu]
    by_cases he : u = y
    · subst he; simp; omega
    · simp [he]
      omega
  · rw [hg]
    have := h.zero
    rw [if_neg (fun he => by subst he; omega)]
    exact h.zero
  · intro u
    rw [hg]
    split
    · omega
    · exact h.low u
  · intro u d hd
    rw [hg] at hd
    split at hd
    · rename_i he
      subst he
      obtain ⟨e, he⟩ := Int.eq_ofNat_of_zero_le hdk
      obtain rfl : d = e + 1 := by omega
      refine ⟨c, h.sound c e (by rw [← hcd]; exact he), ?_⟩
      rw [hck] at ha
      simpa using ha
    · exact h.sound u d hd
  · intro i j hij hj
    simp at hj
    rcases Nat.lt_or_eq_of_le (Nat.le_of_lt_succ hj) with h1 | h1
    · rw [hdo i (by omega), hdo j h1]; exact h.mono i j hij h1
    · subst h1
      rw [hdn]
      rcases Nat.lt_or_eq_of_le hij with h2 | h2
      · rw [hdo i h2]; exact h.cap hk i h2
      · subst h2; rw [hdn]; exact Int.le_refl _
  · intro _ j hj
    simp at hj
    rw [hdo k hk]
    rcases Nat.lt_or_eq_of_le (Nat.le_of_lt_succ hj) with h1 | h1
    · rw [hdo j h1]; exact h.cap hk j h1
    · subst h1; rw [hdn]; exact Int.le_refl _
  · intro i hi u hu
    rw [hold i (by omega)] at hu
    have := h.done i hi u hu
    rw [hdo i (by omega), hg]
    rw [if_neg (fun he => by subst he; omega)]
    exact this
  · intro u
    rw [hg]
    have h1 := h.small u
    have h2 := h.small c
    simp only [List.length_append, List.length_singleton]
    push_cast
    split <;> omega

/-- All neighbours have been looked at. -/
theorem Bfs.next (h : Bfs E v W D k) (hk : k < W.length) (ha : ∀ u : Nat, (u : Int) ∈ adjOf E (W.getD k 0).toNat → 0 ≤ D.getD u (-1) ∧ D.getD u (-1) ≤ dv D W k + 1) : Bfs E v W D (k + 1) :=
  { h with
    le := hk
    cap := fun hk' j hj => by
      have h1 := h.cap hk j hj
      have h2 := h.mono k (k + 1) (by omega) hk'
      omega
    done := fun i hi u hu => by
      rcases Nat.lt_or_eq_of_le (Nat.le_of_lt_succ hi) with h1 | h1
      · exact h.done i h1 u hu
      · subst h1; exact ha u hu }

theorem adj_lt {y x : Nat} (h : (x : Int) ∈ adjOf E y) : y < E.length := by
  by_cases hy : y < E.length
  · exact hy
  · unfold adjOf rowOf at h
    simp [hy] at h

theorem Bfs.end (h : Bfs E v W D W.length) : Dists E v D := by
  refine ⟨h.len, h.low, h.sound, ?_⟩
  intro j
  induction j with
  | zero =>
    intro x hx
    have hx' : x = v := hx
    subst hx'
    rw [h.zero]
    exact ⟨by omega, by omega⟩
  | succ j ih =>
    rintro x ⟨y, hy, hx⟩
    have hyl := adj_lt hx
    obtain ⟨h0, h1⟩ := ih y hy
    obtain ⟨i, hi, hiy⟩ := List.mem_iff_getElem.1 ((h.mem y hyl).2 h0)
    obtain ⟨u, hu, hug, _, _, hd⟩ := h.node hi
    obtain rfl : u = y := by rw [hiy] at hu; omega
    have := h.done i hi x (by rw [hug]; simpa using hx)
    rw [hd] at this
    refine ⟨this.1, ?_⟩
    have h2 := this.2
    push_cast
    omega

theorem nodup_length : ∀ (n : Nat) (l : List Nat), l.Nodup → (∀ x ∈ l, x < n) → l.length ≤ n
  | 0, l, _, h => by
    cases l with
    | nil => simp
    | cons x r => exact absurd (h x (by simp)) (by omega)
  | n + 1, l, hd, h => by
    have h1 := nodup_length n (l.erase n) (hd.erase n) (fun x hx => by
      have hm := (hd.mem_erase_iff).1 hx
      have := h x hm.2
      omega)
    have h2 : l.length ≤ (l.erase n).length + 1 := by
      rw [List.length_erase]
      split <;> omega
    omega

theorem Bfs.size (h : Bfs E v W D k) : W.length ≤ E.length := by
  have := nodup_length E.length (W.map Int.toNat) (by
    rw [List.nodup_iff_pairwise_ne, List.pairwise_map]
    refine (List.nodup_iff_pairwise_ne.1 h.nodup).imp_of_mem ?_
    intro a b ha hb hab he
    obtain ⟨x, rfl, _⟩ := h.nodes a ha
    obtain ⟨y, rfl, _⟩ := h.nodes b hb
    simp at he
    exact hab (by omega)) (by
    intro x hx
    obtain ⟨a, ha, rfl⟩ := List.mem_map.1 hx
    obtain ⟨u, rfl, hu⟩ := h.nodes a ha
    simpa using hu)
  simpa using this
end

end Go.Proofs.Ytnhidomgpbohiaa
end

section
/- Plain facts on walks: shortening, components, periods, flexible labels. No program in sight. -/
namespace Go.Proofs.Ytnhidomgpbohiaa
set_option maxRecDepth 100000

/-- A walk of some length. -/
def Wk (E : Nat → Nat → Prop) : Nat → Nat → Nat → Prop
  | 0, a, b => a = b
  | k + 1, a, b => ∃ c, Wk E k a c ∧ E c b

section
variable {E : Nat → Nat → Prop} {a b c r u v j k n : Nat}

theorem Wk.cat (h : Wk E j a b) : ∀ {k c}, Wk E k b c → Wk E (j + k) a c
  | 0, _, h2 => by cases h2; exact h
  | k + 1, _, ⟨d, h2, h3⟩ => ⟨d, Wk.cat h h2, h3⟩
theorem Wk.one (h : E a b) : Wk E 1 a b := ⟨a, rfl, h⟩
theorem Wk.cons (h : E a b) (h2 : Wk E k b c) : Wk E (k + 1) a c := by
  have := (Wk.one h).cat h2
  rwa [Nat.add_comm] at this
theorem Wk.cut : ∀ {k c}, Wk E (j + k) a c → ∃ b, Wk E j a b ∧ Wk E k b c
  | 0, _, h => ⟨_, h, rfl⟩
  | k + 1, c, ⟨d, h2, h3⟩ => by
    obtain ⟨b, h4, h5⟩ := Wk.cut (k := k) h2
    exact ⟨b, h4, d, h5, h3⟩
theorem Wk.lt (hE : ∀ x y, E x y → y < n) : ∀ {k b}, Wk E k a b → 1 ≤ k → b < n
  | _ + 1, _, ⟨_, _, h⟩, _ => hE _ _ h
/-- The labels of a walk. -/
theorem Wk.path : ∀ {k b}, Wk E k a b → ∃ v : Nat → Nat, v 0 = a ∧ v k = b ∧ ∀ i, i < k → E (v i) (v (i + 1))
  | 0, _, h => by cases h; exact ⟨fun _ => a, rfl, rfl, fun i hi => by omega⟩
  | k + 1, b, ⟨c, h, he⟩ => by
    obtain ⟨v, h0, hk, hs⟩ := Wk.path h
    refine ⟨fun i => if i = k + 1 then b else v i, ?_, ?_, fun i hi => ?_⟩
    · simp only [if_neg (show (0 : Nat) ≠ k + 1 by omega)]; exact h0
    · simp
    · by_cases hi2 : i = k
      · subst hi2
        simp only [if_neg (show i ≠ i + 1 by omega), if_true]
        rw [hk]; exact he
      · simp only [if_neg (show i ≠ k + 1 by omega), if_neg (show i + 1 ≠ k + 1 by omega)]
        exact hs i (by omega)
theorem Wk.of_path {v : Nat → Nat} (hs : ∀ i, i < k → E (v i) (v (i + 1))) : ∀ {i j}, i ≤ j → j ≤ k → Wk E (j - i) (v i) (v j) := by
  intro i j hij hjk
  obtain ⟨d, rfl⟩ : ∃ d, j = i + d := ⟨j - i, by omega⟩
  rw [Nat.add_sub_cancel_left]
  clear hij
  induction d with
  | zero => exact rfl
  | succ d ih => exact ⟨v (i + d), ih (by omega), hs (i + d) (by omega)⟩

/-- A walk that isn't longer than the number of labels. -/
theorem Wk.short (hE : ∀ x y, E x y → y < n) : ∀ {k a b}, Wk E k a b → 1 ≤ k → ∃ k', 1 ≤ k' ∧ k' ≤ n ∧ Wk E k' a b := by
  intro k
  induction k using Nat.strongRecOn with
  | ind k ih =>
    intro a b h hk
    by_cases hkn : k ≤ n
    · exact ⟨k, hk, hkn, h⟩
    · obtain ⟨v, h0, hb, hs⟩ := h.path
      by_cases hinj : ∃ i j, 1 ≤ i ∧ i < j ∧ j ≤ k ∧ v i = v j
      · obtain ⟨i, j, h1, h2, h3, h4⟩ := hinj
        have w1 := Wk.of_path hs (i := 0) (j := i) (by omega) (by omega)
        have w2 := Wk.of_path hs (i := j) (j := k) (by omega) (by omega)
        rw [h0, h4] at w1
        rw [hb] at w2
        have w := w1.cat w2
        exact ih (i - 0 + (k - j)) (by omega) w (by omega)
      · exfalso
        have hlen := nodup_length n ((List.range k).map fun i => v (i + 1)) (by
          unfold List.Nodup
          rw [List.pairwise_map, List.pairwise_iff_getElem]
          intro i j hi hj hij
          simp only [List.length_range] at hi hj
          simp only [List.getElem_range]
          intro he
          exact hinj ⟨i + 1, j + 1, by omega, by omega, by omega, he⟩) (fun x hx => by
          obtain ⟨i, hi, rfl⟩ := List.mem_map.1 hx
          exact hE _ _ (hs i (List.mem_range.1 hi)))
        rw [List.length_map, List.length_range] at hlen
        omega

/-- Labels that walks lead to and from. -/
def Comp (E : Nat → Nat → Prop) (r b : Nat) : Prop := (∃ k, Wk E k r b) ∧ ∃ k, Wk E k b r
theorem Comp.refl : Comp E r r := ⟨⟨0, rfl⟩, ⟨0, rfl⟩⟩
theorem Comp.symm (h : Comp E a b) : Comp E b a := ⟨h.2, h.1⟩
theorem Comp.trans (h : Comp E a b) (h2 : Comp E b c) : Comp E a c := by
  obtain ⟨⟨j, p⟩, k, q⟩ := h
  obtain ⟨⟨j', p'⟩, k', q'⟩ := h2
  exact ⟨⟨_, p.cat p'⟩, _, q'.cat q⟩

/-- A divisor of the lengths of closed walks. -/
def PerDiv (E : Nat → Nat → Prop) (r g : Nat) : Prop := ∀ k, Wk E k r r → g ∣ k
def Flex (E : Nat → Nat → Prop) (a : Nat) : Prop := (∃ k, 0 < k ∧ Wk E k a a) ∧ ∀ g, PerDiv E a g → g = 1

theorem PerDiv.comp {g : Nat} (h : Comp E a b) (hg : PerDiv E a g) : PerDiv E b g := fun k hk => by
  obtain ⟨⟨j, p⟩, i, q⟩ := h
  have h1 := hg _ (p.cat q)
  have h2 := hg _ ((p.cat hk).cat q)
  have h3 : j + k + i = j + i + k := by omega
  rw [h3] at h2
  exact (Nat.dvd_add_right h1).1 h2
theorem Flex.comp (h : Comp E a b) (hf : Flex E a) : Flex E b := by
  obtain ⟨⟨k, h0, hk⟩, hg⟩ := hf
  refine ⟨?_, fun g hb => hg g (hb.comp h.symm)⟩
  obtain ⟨⟨j, p⟩, i, q⟩ := h
  exact ⟨i + k + j, by omega, (q.cat hk).cat p⟩

/-- The divisors of all steps of a potential are those of all closed walks. -/
theorem pot_div {d : Nat → Int} (h0 : d r = 0) (hd : ∀ b, Comp E r b → ∃ k : Nat, d b = k ∧ Wk E k r b) (g : Nat) :
    (∀ u v, Comp E r u → Comp E r v → E u v → (g : Int) ∣ d u + 1 - d v) ↔ PerDiv E r g := by
  constructor
  · intro h
    have go : ∀ k b, Comp E r b → Wk E k r b → (g : Int) ∣ (k : Int) - d b := by
      intro k
      induction k with
      | zero => intro b _ hw; cases hw; rw [h0]; simp
      | succ k ih =>
        intro b hb hw
        obtain ⟨c, hc, he⟩ := hw
        have hcc : Comp E r c := by
          obtain ⟨i, q⟩ := hb.2
          exact ⟨⟨k, hc⟩, _, (Wk.one he).cat q⟩
        have h1 := ih c hcc hc
        have h2 := h c b hcc hb he
        have h3 := Int.dvd_add h1 h2
        have e : ((k : Int) - d c) + (d c + 1 - d b) = ((k + 1 : Nat) : Int) - d b := by push_cast; omega
        rwa [e] at h3
    intro k hk
    have := go k r Comp.refl hk
    rw [h0, Int.sub_zero] at this
    exact Int.natCast_dvd_natCast.1 this
  · intro hg u v hu hv he
    obtain ⟨i, hi, wi⟩ := hd u hu
    obtain ⟨j, hj, wj⟩ := hd v hv
    obtain ⟨k, q⟩ := hv.2
    have h1 := hg _ ((wi.cat (Wk.one he)).cat q)
    have h2 := hg _ (wj.cat q)
    have h3 := Int.dvd_sub (Int.natCast_dvd_natCast.2 h1) (Int.natCast_dvd_natCast.2 h2)
    have e : (((i + 1 + k : Nat) : Int) - ((j + k : Nat) : Int)) = d u + 1 - d v := by rw [hi, hj]; push_cast; omega
    rwa [e] at h3

/-- The period by a number whose divisors are those of all steps. -/
theorem flex_of {P : Nat} (hP : ∀ g : Nat, g ∣ P ↔ PerDiv E r g) (hc : ∃ k, 0 < k ∧ Wk E k r r) : (P = 1 ↔ Flex E r) ∧ P ≠ 0 := by
  constructor
  · constructor
    · intro h
      subst h
      exact ⟨hc, fun g hg => Nat.dvd_one.1 ((hP g).2 hg)⟩
    · intro h
      exact h.2 P ((hP P).1 (Nat.dvd_refl P))
  · intro h0
    subst h0
    obtain ⟨k, h1, h2⟩ := hc
    have := (hP 0).1 (Nat.dvd_refl 0) k h2
    have := Nat.zero_dvd.1 this
    omega

end

noncomputable def flexL (E : Nat → Nat → Prop) (n : Nat) : List Int := by
  classical exact ((List.range n).filter (fun a => decide (Flex E a))).map fun a : Nat => (a : Int)

theorem flexL_mem {E : Nat → Nat → Prop} {n : Nat} {x : Int} : x ∈ flexL E n ↔ ∃ a : Nat, x = a ∧ a < n ∧ Flex E a := by
  classical
  unfold flexL
  rw [List.mem_map]
  constructor
  · rintro ⟨a, ha, rfl⟩
    rw [List.mem_filter] at ha
    exact ⟨a, rfl, List.mem_range.1 ha.1, by simpa using ha.2⟩
  · rintro ⟨a, rfl, h1, h2⟩
    exact ⟨a, List.mem_filter.2 ⟨List.mem_range.2 h1, by simpa using h2⟩, rfl⟩

theorem flexL_sorted (E : Nat → Nat → Prop) (n : Nat) : (flexL E n).Pairwise (· < ·) := by
  classical
  unfold flexL
  rw [List.pairwise_map]
  exact (List.pairwise_lt_range.filter _).imp fun h => by omega

/-! ### Components by their roots -/

noncomputable def compL (E : Nat → Nat → Prop) (n r : Nat) : List Int := by
  classical exact ((List.range n).filter (fun a => decide (Comp E r a))).map fun a : Nat => (a : Int)
theorem compL_mem {E : Nat → Nat → Prop} {n r : Nat} {x : Int} : x ∈ compL E n r ↔ ∃ a : Nat, x = a ∧ a < n ∧ Comp E r a := by
  classical
  unfold compL
  rw [List.mem_map]
  constructor
  · rintro ⟨a, ha, rfl⟩
    rw [List.mem_filter] at ha
    exact ⟨a, rfl, List.mem_range.1 ha.1, by simpa using ha.2⟩
  · rintro ⟨a, rfl, h1, h2⟩
    exact ⟨a, List.mem_filter.2 ⟨List.mem_range.2 h1, by simpa using h2⟩, rfl⟩
theorem compL_mem' {E : Nat → Nat → Prop} {n r b : Nat} : (b : Int) ∈ compL E n r ↔ b < n ∧ Comp E r b := by
  rw [compL_mem]
  exact ⟨fun ⟨a, e, h⟩ => by have : b = a := by omega
                             subst this; exact h, fun h => ⟨b, rfl, h⟩⟩
theorem compL_sorted (E : Nat → Nat → Prop) (n r : Nat) : (compL E n r).Pairwise (· < ·) := by
  classical
  unfold compL
  rw [List.pairwise_map]
  exact (List.pairwise_lt_range.filter _).imp fun h => by omega
theorem compL_len (E : Nat → Nat → Prop) (n r : Nat) : (compL E n r).length ≤ n := by
  classical
  unfold compL
  rw [List.length_map]
  have := List.length_filter_le (fun a => decide (Comp E r a)) (List.range n)
  rwa [List.length_range] at this

/-- The roots of the components with closed walks, of the labels below a number. -/
structure Roots (E : Nat → Nat → Prop) (a : Nat) (rs : List Nat) : Prop where
  lt : ∀ r ∈ rs, r < a
  cyc : ∀ r ∈ rs, ∃ k, 0 < k ∧ Wk E k r r
  apart : rs.Pairwise fun r q => ¬ Comp E r q
  cover : ∀ b, b < a → (∃ k, 0 < k ∧ Wk E k b b) → ∃ r ∈ rs, Comp E r b

theorem Roots.nil (E : Nat → Nat → Prop) : Roots E 0 [] := ⟨by simp, by simp, List.Pairwise.nil, fun b hb => by omega⟩
theorem Roots.skip {E : Nat → Nat → Prop} {a : Nat} {rs : List Nat} (h : Roots E a rs) (hs : (∃ k, 0 < k ∧ Wk E k a a) → ∃ r ∈ rs, Comp E r a) : Roots E (a + 1) rs :=
  ⟨fun r hr => by have := h.lt r hr; omega, h.cyc, h.apart, fun b hb hc => by
    rcases Nat.lt_or_eq_of_le (Nat.le_of_lt_succ hb) with h1 | rfl
    · exact h.cover b h1 hc
    · exact hs hc⟩
theorem Roots.add {E : Nat → Nat → Prop} {a : Nat} {rs : List Nat} (h : Roots E a rs) (hc : ∃ k, 0 < k ∧ Wk E k a a) (hn : ∀ r ∈ rs, ¬ Comp E r a) : Roots E (a + 1) (rs ++ [a]) :=
  ⟨fun r hr => by
    rcases List.mem_append.1 hr with hr | hr
    · have := h.lt r hr; omega
    · rw [List.mem_singleton.1 hr]; omega, fun r hr => by
    rcases List.mem_append.1 hr with hr | hr
    · exact h.cyc r hr
    · rw [List.mem_singleton.1 hr]; exact hc, by
    rw [List.pairwise_append]
    exact ⟨h.apart, List.pairwise_singleton _ _, fun r hr q hq => by rw [List.mem_singleton.1 hq]; exact hn r hr⟩, fun b hb hcb => by
    rcases Nat.lt_or_eq_of_le (Nat.le_of_lt_succ hb) with h1 | rfl
    · obtain ⟨r, hr, hx⟩ := h.cover b h1 hcb
      exact ⟨r, List.mem_append_left _ hr, hx⟩
    · exact ⟨b, by simp, Comp.refl⟩⟩
theorem cyc_comp {E : Nat → Nat → Prop} {a b : Nat} (h : Comp E a b) (hc : ∃ k, 0 < k ∧ Wk E k a a) : ∃ k, 0 < k ∧ Wk E k b b := by
  obtain ⟨k, h0, hk⟩ := hc
  obtain ⟨⟨j, p⟩, i, q⟩ := h
  exact ⟨i + k + j, by omega, (q.cat hk).cat p⟩
/-- A step within a component is a closed walk of its root. -/
theorem cyc_iff {E : Nat → Nat → Prop} {a : Nat} : (∃ b c, Comp E a b ∧ Comp E a c ∧ E b c) ↔ ∃ k, 0 < k ∧ Wk E k a a := by
  constructor
  · rintro ⟨b, c, ⟨⟨j, p⟩, _⟩, ⟨_, i, q⟩, he⟩
    exact ⟨j + 1 + i, by omega, (p.cat (Wk.one he)).cat q⟩
  · rintro ⟨k, hk, hw⟩
    obtain ⟨k, rfl⟩ : ∃ j, k = j + 1 := ⟨k - 1, by omega⟩
    obtain ⟨c, h1, h2⟩ := hw
    exact ⟨c, a, ⟨⟨k, h1⟩, 1, Wk.one h2⟩, Comp.refl, h2⟩

/-- The labels of the flexible components, in any order, without repetition. -/
theorem flex_roots {E : Nat → Nat → Prop} {n : Nat} {rs : List Nat} (h : Roots E n rs) {fs : List Nat} (hf : ∀ r, r ∈ fs ↔ r ∈ rs ∧ Flex E r) : ∀ x, x ∈ fs.flatMap (compL E n) ↔ x ∈ flexL E n := fun x => by
  rw [List.mem_flatMap, flexL_mem]
  constructor
  · rintro ⟨r, hr, hx⟩
    obtain ⟨b, rfl, hb, hc⟩ := compL_mem.1 hx
    exact ⟨b, rfl, hb, ((hf r).1 hr).2.comp hc⟩
  · rintro ⟨b, rfl, hb, hF⟩
    obtain ⟨r, hr, hc⟩ := h.cover b hb hF.1
    exact ⟨r, (hf r).2 ⟨hr, hF.comp hc.symm⟩, compL_mem'.2 ⟨hb, hc⟩⟩
theorem flex_nodup {E : Nat → Nat → Prop} {n : Nat} {fs : List Nat} (h : fs.Pairwise fun r q => ¬ Comp E r q) : (fs.flatMap (compL E n)).Nodup := by
  induction fs with
  | nil => simp
  | cons r fs ih =>
    rw [List.pairwise_cons] at h
    rw [List.flatMap_cons]
    unfold List.Nodup
    rw [List.pairwise_append]
    refine ⟨(compL_sorted E n r).imp fun h => by omega, ih h.2, fun x hx y hy he => ?_⟩
    subst he
    obtain ⟨q, hq, hy⟩ := List.mem_flatMap.1 hy
    obtain ⟨a, rfl, _, ha⟩ := compL_mem.1 hx
    obtain ⟨_, hb⟩ := compL_mem'.1 hy
    exact h.1 q hq (ha.trans hb.symm)

end Go.Proofs.Ytnhidomgpbohiaa
end

section
/- slices.Values at []int: its closure calls yield for each element; turned from the kit's worked text on the library's two iterators over a slice. -/
namespace Go.Proofs.Ytnhidomgpbohiaa
open Go Go.RowKit Go.Shelf Go.Proofs

attribute [local go_sem] Oper.semAt_some

theorem add_block (ad : Addr) (k : Nat) : (ad.add k).block = ad.block := by unfold Addr.add; split <;> rfl

/-- The slice value sv holds the ints zs, in a block below n₀; or it is nil and there are none. -/
def IntsIn (n₀ : Nat) (W : World) (sv : Value) (zs : List Int) : Prop :=
  (∃ cap, sv = .slice none 0 cap ∧ zs = []) ∨ ∃ ad cap, sv = .slice (some ad) zs.length cap ∧ (0 < zs.length → ad.block < n₀) ∧ ∀ j, j < zs.length → W.cell? (ad.add j) = some (.int .i64 (zs[j]?.getD 0))
theorem IntsIn.below {n₀ : Nat} {A B : World} (h : Below n₀ A B) {sv : Value} {zs : List Int} : IntsIn n₀ A sv zs → IntsIn n₀ B sv zs
  | .inl e => .inl e
  | .inr ⟨ad, cap, e, hb, hc⟩ => .inr ⟨ad, cap, e, hb, fun j hj => (h.cell (p := ad.add j) (by rw [add_block]; exact hb (by omega))).trans (hc j hj)⟩

end Go.Proofs.Ytnhidomgpbohiaa
end

section
/- slices.AppendSeq(nil, slices.Values(s)), slices.Collect, slices.Sorted at []int. The walk of the loop is turned from the kit's worked texts (a loop over slices.Values; the shelf's slices.Collect). -/
namespace Go.Proofs.Ytnhidomgpbohiaa
open Go Go.RowKit Go.Shelf Go.Proofs

attribute [local go_sem] Oper.semAt_some

open Go.GX

end Go.Proofs.Ytnhidomgpbohiaa
end

section
/- Edges: both sides' lists of them, and searching in lists of numbers, ends and edges. -/
namespace Go.Proofs.Ytnhidomgpbohiaa
open Go.GX Go.RowKit
set_option maxRecDepth 100000

abbrev Edge := Int × Int × Int × Int

/-- The port of an edge that bears it: the lesser of its two ends. -/
def isFirst (v i : Nat) (e : Int × Int) : Bool := decide ((v : Int) < e.1) || ((v : Int) == e.1 && decide ((i : Int) ≤ e.2))

def portE (E : Ends) (v i : Nat) : List Edge := match port E v i with
  | some e => if isFirst v i e then [((v : Int), (i : Int), e.1, e.2)] else []
  | none => []
def rowE (E : Ends) (v : Nat) : Nat → List Edge
  | 0 => []
  | i + 1 => rowE E v i ++ portE E v i
def edgesTo (E : Ends) : Nat → List Edge
  | 0 => []
  | v + 1 => edgesTo E v ++ rowE E v (rowOf E v).length
def edgesOf (E : Ends) : List Edge := edgesTo E E.length

/-! ### Searching -/

def Found {α : Type} (l : List α) (p : α → Bool) (i : Int) : Prop := match l.findIdx? p with | some k => i = k | none => i = -1

theorem found_ge {α : Type} {l : List α} {p : α → Bool} {i : Int} (h : Found l p i) : decide (i ≥ 0) = l.any p := by
  unfold Found at h
  cases hf : l.findIdx? p with
  | none =>
    rw [hf] at h
    simp only at h
    subst h
    have h1 := List.findIdx?_eq_none_iff.1 hf
    have : l.any p = false := by
      rw [List.any_eq_false]; intro x hx; simp [h1 x hx]
    rw [this]; rfl
  | some k =>
    rw [hf] at h
    simp only at h
    subst h
    obtain ⟨hk, hp, _⟩ := List.findIdx?_eq_some_iff_getElem.1 hf
    have : l.any p = true := List.any_eq_true.2 ⟨l[k], List.getElem_mem hk, hp⟩
    rw [this]
    simp

theorem found_at {α : Type} {l : List α} {p : α → Bool} {i : Nat} (hi : i < l.length) (ha : ∀ x ∈ l.take i, p x = false) (ht : p l[i] = true) : Found l p i := by
  have : l.findIdx? p = some i := by
    rw [List.findIdx?_eq_some_iff_getElem]
    refine ⟨hi, ht, fun j hj => ?_⟩
    have := ha l[j] (by rw [List.mem_take_iff_getElem]; exact ⟨j, by omega, rfl⟩)
    simp [this]
  unfold Found
  rw [this]

theorem found_no {α : Type} {l : List α} {p : α → Bool} (ha : ∀ x ∈ l, p x = false) : Found l p (-1) := by
  have : l.findIdx? p = none := List.findIdx?_eq_none_iff.2 ha
  unfold Found
  rw [this]

theorem none_succ {α : Type} {l : List α} {p : α → Bool} {i : Nat} (hi : i < l.length) (ha : ∀ x ∈ l.take i, p x = false) (hf : p l[i] = false) : ∀ x ∈ l.take (i + 1), p x = false := by
  intro y hy
  rw [List.take_succ_eq_append_getElem hi] at hy
  rcases List.mem_append.1 hy with h1 | h1
  · exact ha y h1
  · rw [List.mem_singleton.1 h1]; exact hf

theorem index_ok {w : World} {s : Sl} {l : List Int} (h : R w s l) (x : Int) :
    Calls Try.prog F.slices_Index_sl_int_int #[s.v, .int .i64 x] w (Ret [.at (.int .i64)] fun (i : Int) w' => Found l (fun y => x == y) i ∧ w = w') := by
  refine C_slices_Index_sl_int_int ?_
  unfold V_slices_Index_sl_int_int
  rw [h.len]
  refine ⟨IN l.length fun i w' => w = w' ∧ ∀ y ∈ l.take i, (x == y) = false, MN l.length, IN_zero ⟨rfl, by simp⟩, ?_⟩
  rintro _ w1 ⟨i, rfl, hi', rfl, ha⟩
  intros
  refine cond_dec (fun hlt => ?_) (fun hge => ⟨?_, rfl⟩)
  · have hlt' : i < l.length := by omega
    refine h.ixI hlt' fun q _ hc => LD_int hc ?_
    exact cond_b (fun ht => ⟨found_at hlt' ha ht, rfl⟩) (fun hf => IN_next h.le hlt' ⟨rfl, none_succ hlt' ha hf⟩)
  · have : i = l.length := by omega
    subst this
    exact found_no (by simpa using ha)

theorem contains_ok {w : World} {s : Sl} {l : List Int} (h : R w s l) (x : Int) :
    Calls Try.prog F.slices_Contains_sl_int_int #[s.v, .int .i64 x] w (Ret [.at .bool] fun (b : Bool) w' => b = l.contains x ∧ w = w') := by
  refine C_slices_Contains_sl_int_int ?_
  unfold V_slices_Contains_sl_int_int
  refine call (index_ok h x) ?_
  rintro i _ ⟨hi, rfl⟩
  refine ⟨?_, rfl⟩
  rw [found_ge hi, ← List.any_beq]

end Go.Proofs.Ytnhidomgpbohiaa
end

section
/- Proper colourings: both sides' tests. -/
namespace Go.Proofs.Ytnhidomgpbohiaa
open Go.GX Go.RowKit
set_option maxRecDepth 100000

/-- Two nodes with an edge between them, the lesser first, that bear the same. -/
def Clash (E : Ends) (l : List Int) : Prop := ∃ v u : Nat, v ≤ u ∧ v < E.length ∧ u < E.length ∧ (u : Int) ∈ adjOf E v ∧ l.getD v 0 = l.getD u 0

def Proper (n : Net) (l : List Int) : Prop := l.length = n.ends.length ∧ AllIn l 0 1000000000000 ∧ ¬ Clash n.ends l

end Go.Proofs.Ytnhidomgpbohiaa
end

section
/- Matchings: both sides' tests, and the law IsMatching. -/
namespace Go.Proofs.Ytnhidomgpbohiaa
open Go.GX Go.RowKit
set_option maxRecDepth 100000

/-- Node v and its mate agree. -/
def MAt (E : Ends) (m : List Int) (v : Nat) : Prop :=
  ∀ x, m[v]? = some x → x = -1 ∨ ∃ e, portZ E v x = some e ∧ e.1 ≠ v ∧ ∃ u : Nat, e.1 = u ∧ m[u]? = some e.2

def MatchOk (E : Ends) (m : List Int) : Prop := m.length = E.length ∧ ∀ v < m.length, MAt E m v

end Go.Proofs.Ytnhidomgpbohiaa
end

section
/- Sets of nodes and matchings: both sides' tests of independence, covers, maximality; sizes of matchings. -/
namespace Go.Proofs.Ytnhidomgpbohiaa
open Go.GX Go.RowKit
set_option maxRecDepth 100000

structure SetOk (n : Net) (l : List Int) : Prop where
  good : Good n
  rising : Rising l 0 (n.ends.length - 1)

theorem SetOk.node {n : Net} {l : List Int} (h : SetOk n l) : ∀ x ∈ l, ∃ u : Nat, x = u ∧ u < n.ends.length := by
  intro x hx
  have := h.rising.1 x hx
  exact ⟨x.toNat, by omega, by omega⟩

/-! ### Independent sets -/

/-- No neighbour of v lies in the set. -/
def Apart (E : Ends) (l : List Int) (v : Nat) : Prop := ∀ x ∈ adjOf E v, x ∉ l

/-! ### Covers -/

end Go.Proofs.Ytnhidomgpbohiaa
end

section
/- Maximal matchings and maximal independent sets; sizes of matchings. -/
namespace Go.Proofs.Ytnhidomgpbohiaa
open Go.GX Go.RowKit
set_option maxRecDepth 100000

/-! ### Matchings that are asked rightly, and their size -/

structure MatchAsked (n : Net) (m : List Int) : Prop where
  good : Good n
  is : MatchOk n.ends m

/-- An answer that is a number, and whether it was asked rightly. -/
def AnsI (g : Prop) (k : Int) (x : Int) (ok : Bool) : Prop := (ok = true ↔ g) ∧ (g → x = k) ∧ (¬ g → x = 0)

theorem AnsI.eq {g : Prop} {k x x' : Int} {ok ok' : Bool} (h : AnsI g k x ok) (h' : AnsI g k x' ok') : x = x' ∧ ok = ok' := by
  refine ⟨?_, Bool.eq_iff_iff.2 (h.1.trans h'.1.symm)⟩
  by_cases hg : g
  · rw [h.2.1 hg, h'.2.1 hg]
  · rw [h.2.2 hg, h'.2.2 hg]

theorem AnsI.no {g : Prop} {k : Int} (h : ¬ g) : AnsI g k 0 false := ⟨by simp [h], fun h1 => absurd h1 h, fun _ => rfl⟩
theorem AnsI.mk {g : Prop} {k x : Int} (h : g) (hx : x = k) : AnsI g k x true := ⟨by simp [h], fun _ => hx, fun h1 => absurd h h1⟩

/-! ### Maximal matchings -/

/-- An edge that could be added: two nodes, both free. -/
def FreeEdge (l : List Int) (q : Edge) : Prop := q.1 ≠ q.2.2.1 ∧ l.getD q.1.toNat 0 < 0 ∧ l.getD q.2.2.1.toNat 0 < 0
instance (l : List Int) (q : Edge) : Decidable (FreeEdge l q) := by unfold FreeEdge; exact inferInstance
def Maximal (n : Net) (l : List Int) : Prop := ∀ q ∈ edgesOf n.ends, ¬ FreeEdge l q

/-! ### Maximal independent sets -/

end Go.Proofs.Ytnhidomgpbohiaa
end

section
/- Slices that may be written, whatever they hold: the marks that a law leaves in its arguments and answers. No program is named here. -/
namespace Go.GX
open Go.RowKit

/-- Each cell of the slice may be written. -/
def Wr (w : World) (s : Sl) (sz : Nat) : Prop := ∀ j, j < s.len * sz → ∃ a, s.a = some a ∧ (∃ old, w.cell? (a.add j) = some old) ∧ w.frozen? (a.add j) = false

/-- No cell goes, none is frozen. -/
def Shp (w w' : World) : Prop := (∀ a old, w.cell? a = some old → ∃ new, w'.cell? a = some new) ∧ ∀ a, w.frozen? a = false → (∃ old, w.cell? a = some old) → w'.frozen? a = false

theorem Shp.refl (w : World) : Shp w w := ⟨fun _ old h => ⟨old, h⟩, fun _ h _ => h⟩
theorem Shp.trans {a b c : World} (h : Shp a b) (k : Shp b c) : Shp a c :=
  ⟨fun p old hp => by obtain ⟨n, hn⟩ := h.1 p old hp; exact k.1 p n hn, fun p hf ⟨old, hp⟩ => k.2 p (h.2 p hf ⟨old, hp⟩) (h.1 p old hp)⟩
theorem Shp.setCell (w : World) (p : Addr) (v : Value) : Shp w (w.setCell p v) :=
  ⟨fun a old h => by
    by_cases hp : p = a
    · subst hp; exact ⟨v, World.cell?_setCell_same w p v h⟩
    · exact ⟨old, by rw [World.cell?_setCell_other w p a v hp]; exact h⟩, fun a h _ => by rw [World.frozen?_setCell]; exact h⟩
theorem Shp.ext {w w' : World} (h : Ext w w') : Shp w w' :=
  ⟨fun a old ho => ⟨old, h.cell ho⟩, fun a hf ⟨old, ho⟩ => by
    have hb : w'.heap[a.block]? = w.heap[a.block]? := h.same (cell_lt ho)
    unfold World.frozen? at hf ⊢
    rw [hb]; exact hf⟩

theorem Wr.shp {w w' : World} {s : Sl} {sz : Nat} (h : Wr w s sz) (hs : Shp w w') : Wr w' s sz := fun j hj => by
  obtain ⟨a, ha, ⟨old, hc⟩, hf⟩ := h j hj
  exact ⟨a, ha, hs.1 _ _ hc, hs.2 _ hf ⟨old, hc⟩⟩

theorem OwnL.wr {α : Type} [Flat α] {w : World} {base : Nat} {e : TypeId} {s : Sl} {l : List α} (h : OwnL w base e s l) : Wr w s (Rep.sz α) := fun j hj => by
  rcases h.2.2 with ⟨hv, h0⟩ | ⟨g, cap, cur, hv, hb, hg, hle, _, hsz, htake⟩
  · rw [h0] at hj; simp at hj
  · simp [Sl.v] at hv
    obtain ⟨ha, rfl⟩ := hv
    have hlen := h.2.length
    have hlt : j < (l.flatMap Flat.cells).length := by rw [hlen]; exact hj
    have hown : w.ownsRow base e (Rep.sz α) s.v s.len (l.flatMap Flat.cells) := h.2
    refine ⟨_, ha, ⟨_, World.ownsRow.cells hown (g := g) (by simp [Sl.v, ha, Value.ownBlock]) j _ (List.getElem?_eq_getElem hlt)⟩, ?_⟩
    simp [World.frozen?, add_block, hg]

/-- The block of a slice. -/
def blkOf (s : Sl) (b : Nat) : Prop := ∃ a, s.a = some a ∧ a.block = b

/-- Numbers in a row. -/
def marks (k : Int) (n : Nat) : List Int := (List.range n).map fun (i : Nat) => k + (i : Int)

/-! ### Lists that are filled from the front -/

/-! ### Boxes and lists of the call's own, apart by their types -/

def oB (s : Sl) (b : Nat) : Prop := s.v.ownBlock = some b

theorem SlR.stepD {α : Type} [RepP α] {D : Nat → Prop} {w w' : World} {s : Sl} {l : List α} {g : Option Nat} (h : SlR D w s l) (hs : Step w w' g) (hD : ∀ b, D b → g ≠ some b) : SlR D w' s l :=
  (h.below.agr fun b hb => hs.block b hb.2 fun he => hD b hb.1 he.symm).weak (fun _ hb _ => hb.1) RepP.pos

/-! ### Answers that hold only where something holds -/

structure AnsG {α : Type} (g : Prop) (x d y : α) (ok : Bool) : Prop where
  ok : ok = true ↔ g
  val : g → y = x
  non : ¬ g → y = d

theorem AnsG.yes {α : Type} {g : Prop} {x d : α} (h : g) : AnsG g x d x true := ⟨by simp [h], fun _ => rfl, fun hn => absurd h hn⟩
theorem AnsG.no {α : Type} {g : Prop} {x d : α} (h : ¬ g) : AnsG g x d d false := ⟨by simp [h], fun hg => absurd hg h, fun _ => rfl⟩
theorem AnsG.eq {α : Type} {g : Prop} {x d y y' : α} {ok ok' : Bool} (h : AnsG g x d y ok) (h' : AnsG g x d y' ok') : y = y' ∧ ok = ok' := by
  constructor
  · by_cases hg : g
    · rw [h.val hg, h'.val hg]
    · rw [h.non hg, h'.non hg]
  · rw [Bool.eq_iff_iff, h.ok, h'.ok]

end Go.GX
end

section
/- The laws' marks: what they write into copies and answers, and what they look for again. -/
namespace Go.Proofs.Ytnhidomgpbohiaa
open Go.GX Go.RowKit
set_option maxRecDepth 100000

/-- A slice of numbers that may be marked: its blocks lie between two bounds. -/
structure MInt (w : World) (s : Sl) (lo hi : Nat) : Prop where
  wr : Wr w s 1
  len : s.len ≤ 1048576
  blk : ∀ b, blkOf s b → lo ≤ b ∧ b < hi

theorem MInt.shp {w w' : World} {s : Sl} {lo hi : Nat} (h : MInt w s lo hi) (hs : Shp w w') : MInt w' s lo hi := ⟨h.wr.shp hs, h.len, h.blk⟩
theorem MInt.ext {w w' : World} {s : Sl} {lo hi : Nat} (h : MInt w s lo hi) (hE : Ext w w') : MInt w' s lo hi := h.shp (Shp.ext hE)

/-- A slice of slices of numbers that may be marked. -/
structure MIntSS (w : World) (s : Sl) (lo hi : Nat) : Prop where
  ex : ∃ ss : List Sl, OwnL w lo T.t_sl_int s ss ∧ ss.length ≤ 1048576 ∧ ∀ r ∈ ss, MInt w r lo hi ∧ ∀ b, blkOf r b → s.v.ownBlock ≠ some b


/-! ### Answers that are lists -/

/-- An answer of the call's own: its blocks lie from base on. -/
structure OutL (base : Nat) (w : World) (s : Sl) (l : List Int) : Prop where
  own : OwnL w base T.t_int s l
  i64 : ∀ x ∈ l, I64 x
  small : l.length ≤ 1048576

theorem OutL.rep {base : Nat} {w : World} {s : Sl} {l : List Int} (h : OutL base w s l) : R w s l := (h.own.rep h.i64).any
theorem OutL.ext {base : Nat} {w w' : World} {s : Sl} {l : List Int} (h : OutL base w s l) (hE : Ext w w') : OutL base w' s l := ⟨h.own.ext hE, h.i64, h.small⟩
theorem OutL.nil (base : Nat) (w : World) : OutL base w ⟨none, 0, 0⟩ [] := ⟨OwnL.nil _ _ _, by simp, by simp⟩
theorem OutL.low {base b : Nat} {w : World} {s : Sl} {l : List Int} (h : OutL base w s l) (hb : b ≤ base) : OutL b w s l := ⟨h.own.low hb, h.i64, h.small⟩

end Go.Proofs.Ytnhidomgpbohiaa
end

section
/- Contracts of functions of the library: Mul, Repeat. -/
namespace Go.Proofs.Ytnhidomgpbohiaa
open Go.GX Go.RowKit
set_option maxRecDepth 100000

theorem mul_ok {x y : Nat} (h : x * y < 4294967296) (hx : x < 4294967296) (hy : y < 4294967296) (w : World) :
    Calls Try.prog F.math_bits_Mul #[.int .u64 x, .int .u64 y] w (Ret [.at (.int .u64), .at (.int .u64)] fun (a b : Int) w' => a = 0 ∧ b = ((x * y : Nat) : Int) ∧ w = w') := by
  refine C_math_bits_Mul ?_
  unfold V_math_bits_Mul
  refine call (Q := fun (a b : Int) w' => a = 0 ∧ b = ((x * y : Nat) : Int) ∧ w = w') (C_math_bits_Mul64 ?_) (fun a b w' h => h)
  unfold V_math_bits_Mul64
  refine ⟨by decide, by decide, by decide, by decide, by decide, ?_⟩
  have s0 : ∀ a : Nat, a < 4294967296 → shrI .u64 a 32 = 0 := fun a ha => by
    have := shr_nat .u64 a 32 (by decide)
    rw [show ((32 : Nat) : Int) = 32 from rfl] at this
    rw [this, Nat.div_eq_of_lt (by simpa using ha)]; rfl
  have wr : ∀ a : Nat, a < 4294967296 → IntKind.u64.wrap (a : Int) = a := fun a ha => wrap_u64 (by omega) (by omega)
  have z0 : shrI .u64 0 32 = 0 := s0 0 (by omega)
  have w0 : IntKind.u64.wrap 0 = 0 := wr 0 (by omega)
  have b0 : bitAnd .u64 0 4294967295 = 0 := bitAnd_u64_low 0 (by omega)
  rw [s0 x hx, s0 y hy, bitAnd_u64_low x hx, bitAnd_u64_low y hy, ← Int.natCast_mul, wr _ h, s0 _ h]
  simp only [Int.zero_mul, Int.mul_zero, w0, z0, b0, Int.add_zero]
  exact ⟨trivial, trivial, trivial⟩

theorem repl_step {n k : Nat} {v : Int} (hk : k ≤ n) (h0 : 0 < k) : ((List.replicate k v ++ List.replicate (n - k) 0).take k ++ (List.replicate k v).take (n - k) ++ (List.replicate k v ++ List.replicate (n - k) 0).drop (k + min (List.replicate k v).length (n - k))) = List.replicate (k + min k (n - k)) v ++ List.replicate (n - (k + min k (n - k))) (0 : Int) := by
  simp only [List.length_replicate]
  rw [List.take_append_of_le_length (by simp), List.take_replicate, Nat.min_self, List.take_replicate, List.drop_append, List.drop_eq_nil_of_le (by simp), List.nil_append, List.drop_replicate, List.length_replicate, List.replicate_append_replicate]
  congr 2
  · omega
  · omega

theorem repeat_ok {w : World} {s : Sl} {v : Int} (h : R w s [v]) (hv : I64 v) {n : Nat} (hn : n ≤ 1048576) :
    Calls Try.prog F.slices_Repeat_sl_int_int #[s.v, .int .i64 n] w (Ret [.at .sl] fun (r : Sl) w' => Ext w w' ∧ OwnL w' w.heap.size T.t_int r (List.replicate n v)) := by
  refine C_slices_Repeat_sl_int_int ?_
  unfold V_slices_Repeat_sl_int_int
  refine cond_df (by omega) ?_
  have hsl : s.len = 1 := h.len
  rw [hsl, wrap_u64 (by omega) (by omega), wrap_u64 (by omega) (by omega)]
  refine call (mul_ok (x := 1) (y := n) (by omega) (by omega) (by omega) w) ?_
  rintro a b _ ⟨rfl, rfl, rfl⟩
  refine cond_df (by omega) ?_
  refine cond_df (by omega) ?_
  unfold V_slices_Repeat_sl_int_int_k2
  rw [Nat.one_mul, wrap_of (by omega) (by omega)]
  refine RUN_make (α := Int) slt_int (d := 0) rfl (by omega) (by unfold maxLen; omega) fun r w1 hE1 hO1 => ?_
  have hrl : r.len = n := by rw [hO1.1]; simp
  refine RUN_copy (α := Int) rfl slt_int hO1 (off := 0) (d := r) (fun _ => by cases r.a <;> simp [add_zero']) (by simp [hrl]) (h.ext hE1) fun w2 hO2 hs2 _ => ?_
  have hE2 := hs2.ext0 hE1 (fun k hk => (hO1.blk k hk).1)
  refine ⟨fun x w' => ∃ k : Nat, x = k ∧ k ≤ n ∧ (0 < n → 0 < k) ∧ Ext w w' ∧ OwnL w' w.heap.size T.t_int r (List.replicate k v ++ List.replicate (n - k) 0), fun x _ => n - x.toNat, ⟨min 1 n, ?_, by omega, by omega, hE2, ?_⟩, ?_⟩
  · simp [hrl]
  · rcases Nat.eq_zero_or_pos n with h0 | h0
    · subst h0
      simpa [hrl] using hO2
    · have e1 : min 1 n = 1 := by omega
      rw [e1]
      have e2 : (List.take 0 (List.replicate n (0 : Int)) ++ List.take r.len [v] ++ List.drop (0 + min [v].length r.len) (List.replicate n 0)) = List.replicate 1 v ++ List.replicate (n - 1) 0 := by
        rw [hrl]
        simp [List.take_of_length_le (l := [v]) (i := n) (by simp; omega), e1]
      rw [← e2]; exact hO2
  rintro x w3 ⟨k, rfl, hk, hpos, hE3, hO3⟩
  intros
  refine cond_dec (fun hlt => ?_) (fun hge => ?_)
  · have hkn : k < n := by omega
    have hk0 : 0 < k := hpos (by omega)
    intro w4 hE4 hheap
    refine ⟨fun _ => True, ?_⟩
    have hcap : r.len ≤ r.cap := ((hO3.rep (by intro x hx; rcases List.mem_append.1 hx with h1 | h1 <;> rw [List.eq_of_mem_replicate h1]; exact hv; exact ⟨by decide, by decide⟩)).2.1).1
    refine SLC_from hcap (by omega) fun d hdl hda => ⟨Chg.refl _ _, ?_⟩
    refine SLC_to (by omega) fun y hyl hya hyc => ⟨Chg.refl _ _, ?_⟩
    have hO4 := hO3.ext hE4
    have hR4 := hO4.rep (by intro x hx; rcases List.mem_append.1 hx with h1 | h1 <;> rw [List.eq_of_mem_replicate h1]; exact hv; exact ⟨by decide, by decide⟩)
    have hRy : R w4 y (List.replicate k v) := by
      refine ⟨by simp [hyl], ⟨by omega, by have := hR4.2.1.2; omega⟩, fun i x hx => ?_⟩
      obtain ⟨a, cs, h1, _, h3, h4⟩ := hR4.2.2 i x (by
        obtain ⟨hi, _⟩ := List.getElem?_eq_some_iff.1 hx
        rw [List.getElem?_append_left hi]; exact hx)
      exact ⟨a, cs, by rw [hya]; exact h1, trivial, h3, h4⟩
    refine RUN_copy (α := Int) rfl slt_int hO4 (off := k) (d := d) (fun hd0 => by rw [hda (by omega)]; simp) (by simp; omega) hRy fun w5 hO5 hs5 _ => ?_
    rw [hdl, hrl] at hO5 ⊢
    rw [repl_step hk hk0] at hO5
    have hmin : min (List.replicate k v).length (n - k) = min k (n - k) := by simp
    refine ⟨.of_step hs5 fun _ _ => trivial, .of_step hs5 fun _ _ => trivial, ?_⟩
    rw [hmin, wrap_of (by omega) (by omega)]
    exact ⟨⟨k + min k (n - k), by omega, by omega, by omega, hs5.ext0 (hE3.trans hE4) (fun b hb => (hO4.blk b hb).1), hO5⟩, by show n - (_ : Int).toNat < n - (_ : Int).toNat; omega⟩
  · have : k = n := by omega
    subst this
    exact ⟨hE3, by simpa using hO3⟩

end Go.Proofs.Ytnhidomgpbohiaa
end

section
/- Orders of nodes; sets that are kept in order; GreedyIndependent, both sides. -/
namespace Go.Proofs.Ytnhidomgpbohiaa
open Go.GX Go.RowKit
set_option maxRecDepth 100000

theorem slt_bool : SlT Try.prog T.t_sl_bool T.t_bool 1 1 (.bool false) := ⟨by kernel_rfl, by kernel_rfl, rfl, by decide⟩

structure PermOk (l : List Int) (k : Nat) : Prop where
  len : l.length = k
  all : AllIn l 0 (k - 1)
  nodup : l.Nodup

theorem PermOk.node {l : List Int} {k : Nat} (h : PermOk l k) : ∀ x ∈ l, ∃ u : Nat, x = u ∧ u < k := fun x hx => by
  have := h.all x hx
  exact ⟨x.toNat, by omega, by omega⟩

/-! ### Lists in order -/

theorem sorted_ext : ∀ {a b : List Int}, a.Pairwise (· < ·) → b.Pairwise (· < ·) → (∀ x, x ∈ a ↔ x ∈ b) → a = b
  | [], [], _, _, _ => rfl
  | [], y :: b, _, _, h => by have := (h y).2 (by simp); cases this
  | x :: a, [], _, _, h => by have := (h x).1 (by simp); cases this
  | x :: a, y :: b, ha, hb, h => by
    obtain ⟨ha1, ha2⟩ := List.pairwise_cons.1 ha
    obtain ⟨hb1, hb2⟩ := List.pairwise_cons.1 hb
    have hxy : x = y := by
      have h1 := (h x).1 (by simp)
      have h2 := (h y).2 (by simp)
      rcases List.mem_cons.1 h1 with h3 | h3
      · exact h3
      · rcases List.mem_cons.1 h2 with h4 | h4
        · exact h4.symm
        · have := hb1 x h3; have := ha1 y h4; omega
    subst hxy
    rw [sorted_ext ha2 hb2 fun z => ?_]
    constructor
    · intro hz
      rcases List.mem_cons.1 ((h z).1 (by simp [hz])) with h3 | h3
      · have := ha1 z hz; omega
      · exact h3
    · intro hz
      rcases List.mem_cons.1 ((h z).2 (by simp [hz])) with h3 | h3
      · have := hb1 z hz; omega
      · exact h3

theorem eq_sortI {m S : List Int} (hm : m.Pairwise (· < ·)) (hS : S.Nodup) (h : ∀ x, x ∈ m ↔ x ∈ S) : m = sortI S :=
  sorted_ext hm (incr_iff_pairwise.1 (incr_sortI.2 hS)) fun x => (h x).trans (sortI_perm S).mem_iff.symm

/-- A slice's last elements. -/
theorem slr_drop {α : Type} [RepP α] {D : Nat → Prop} {w : World} {s : Sl} {l : List α} (h : SlR D w s l) {i : Nat} (hi : i ≤ l.length) {sz : Nat} (hsz : sz = Rep.sz α) {K : Sl → Prop} (hk : ∀ s', SlR D w s' (l.drop i) → K s') : SLC s (some (i : Int)) none sz K := by
  subst hsz
  have h1 := h.1
  have h2 := h.2.1
  refine SLC_from' h2.1 (by omega) fun d hd hc ha => hk d ⟨by simp; omega, by omega, fun j x hx => ?_⟩
  rw [List.getElem?_drop] at hx
  have hlt := (List.getElem?_eq_some_iff.1 hx).1
  obtain ⟨a, cs, e1, e2, e3, e4⟩ := h.2.2 (i + j) x hx
  refine ⟨a.add (i * Rep.sz α), cs, by rw [ha (by omega), e1]; rfl, by rw [add_block]; exact e2, e3, fun t v ht => ?_⟩
  rw [add_add, show i * Rep.sz α + (j * Rep.sz α + t) = (i + j) * Rep.sz α + t by rw [Nat.add_mul]; omega]
  exact e4 t v ht

theorem l1Put_D {D : Nat → Prop} {w : World} {s : Sl} {l : List Int} (h : SlR D w s l) (hl : l.length ≤ 100000) (hsorted : l.Pairwise (· < ·)) {n : Int} (hn : I64 n) :
    Calls Try.prog F.s_l1Put #[s.v, .int .i64 n] w (Ret [.at .sl] fun (r : Sl) w' => Ext w w' ∧ ∃ m, SlR (fun b => D b ∨ w.heap.size ≤ b) w' r m ∧ m.Pairwise (· < ·) ∧ (∀ x, x ∈ m ↔ x ∈ l ∨ x = n) ∧ m.length ≤ l.length + 1) := by
  refine C_s_l1Put ?_
  unfold V_s_l1Put
  rw [h.len]
  have hfin : ∀ k : Nat, k ≤ l.length → (∀ x ∈ l.take k, x < n) → (∀ x ∈ l.drop k, n ≤ x) → V_s_l1Put_k1 s n (fun (r : Sl) w' => Ext w w' ∧ ∃ m, SlR (fun b => D b ∨ w.heap.size ≤ b) w' r m ∧ m.Pairwise (· < ·) ∧ (∀ x, x ∈ m ↔ x ∈ l ∨ x = n) ∧ m.length ≤ l.length + 1) (k : Int) w := by
    intro k hk hlo hhi
    unfold V_s_l1Put_k1
    have hput : n ∉ l → V_s_l1Put_k4 s n (fun (r : Sl) w' => Ext w w' ∧ ∃ m, SlR (fun b => D b ∨ w.heap.size ≤ b) w' r m ∧ m.Pairwise (· < ·) ∧ (∀ x, x ∈ m ↔ x ∈ l ∨ x = n) ∧ m.length ≤ l.length + 1) (k : Int) w := by
      intro hnl
      unfold V_s_l1Put_k4
      refine RUN_lit0 (α := Int) slt_int fun r1 w1 hE1 hO1 => ?_
      have h1 := h.ext hE1
      refine h1.take hk rfl fun s1 hs1 => ?_
      have htl : (l.take k).length ≤ 100000 := by simp; omega
      have hdl : (l.drop k).length ≤ 100000 := by simp; omega
      refine RUN_append (α := Int) slt_int hO1 hE1.size_le hs1 (by simp; omega) (by simp [maxLen]; omega) fun r2 w2 hO2 hs2 => ?_
      have hE2 := hs2.ext0 hE1 (fun k hk => (hO1.blk k hk).1)
      refine RUN_lit1 (α := Int) slt_int n rfl (by decide) fun r3 w3 hE3 hO3 => ?_
      have hO2' := hO2.ext hE3
      refine RUN_append (α := Int) slt_int hO2' (hE2.trans hE3).size_le (hO3.rep (by intro z hz; simp at hz; subst hz; exact hn)).any (by simp; omega) (by simp [maxLen]; omega) fun r4 w4 hO4 hs4 => ?_
      have hE4 := hs4.ext0 (hE2.trans hE3) (fun k hk => (hO2'.blk k hk).1)
      refine slr_drop (h.ext hE4) hk rfl fun s5 hs5 => ?_
      refine RUN_append (α := Int) slt_int hO4 hE4.size_le hs5 (by simp; omega) (by simp [maxLen]; omega) fun r6 w6 hO6 hs6 => ?_
      have hE6 := hs6.ext0 hE4 (fun k hk => (hO4.blk k hk).1)
      refine ⟨hE6, _, (hO6.rep ?_).weak (fun b hb _ => .inr hb) RepP.pos, ?_, ?_, ?_⟩
      · intro x hx
        simp only [List.mem_append, List.mem_singleton, List.not_mem_nil, false_or] at hx
        rcases hx with (h7 | h7) | h7
        · exact flat_ok h.any x (List.mem_of_mem_take h7)
        · rw [h7]; exact hn
        · exact flat_ok h.any x (List.mem_of_mem_drop h7)
      · have hp := hsorted
        rw [← List.take_append_drop k l, List.pairwise_append] at hp
        simp only [List.nil_append, List.append_assoc]
        rw [List.pairwise_append]
        refine ⟨hp.1, ?_, ?_⟩
        · simp only [List.singleton_append, List.pairwise_cons]
          refine ⟨fun x hx => ?_, hp.2.1⟩
          have h8 := hhi x hx
          have : x ≠ n := fun he => hnl (he ▸ List.mem_of_mem_drop hx)
          omega
        · intro x hx y hy
          simp only [List.singleton_append, List.mem_cons] at hy
          rcases hy with rfl | hy
          · exact hlo x hx
          · exact hp.2.2 x hx y hy
      · intro x
        simp only [List.mem_append, List.mem_singleton, List.not_mem_nil, false_or]
        constructor
        · rintro ((h7 | h7) | h7)
          · exact .inl (List.mem_of_mem_take h7)
          · exact .inr h7
          · exact .inl (List.mem_of_mem_drop h7)
        · rintro (h7 | h7)
          · rw [← List.take_append_drop k l] at h7
            rcases List.mem_append.1 h7 with h8 | h8
            · exact .inl (.inl h8)
            · exact .inr h8
          · exact .inl (.inr h7)
      · simp; omega
    rw [h.len]
    refine cond_dec (fun hlt => ?_) (fun hge => ?_)
    · have hk' : k < l.length := by omega
      refine h.ixI hk' fun q _ hc => LD_int hc ?_
      refine cond_eq (fun he => ?_) (fun hne => hput fun hm => ?_)
      · refine ⟨Ext.refl _, l, h.weak (fun b hb _ => .inl hb) RepP.pos, hsorted, fun x => ⟨.inl, ?_⟩, by omega⟩
        rintro (h7 | h7)
        · exact h7
        · rw [h7, ← he]; exact List.getElem_mem hk'
      · rw [← List.take_append_drop k l] at hm
        rcases List.mem_append.1 hm with h7 | h7
        · have := hlo n h7; omega
        · rw [List.drop_eq_getElem_cons hk'] at h7
          rcases List.mem_cons.1 h7 with h8 | h8
          · exact hne h8.symm
          · have hp := hsorted
            rw [← List.take_append_drop k l, List.pairwise_append] at hp
            have := hp.2.1
            rw [List.drop_eq_getElem_cons hk', List.pairwise_cons] at this
            have h9 := this.1 n h8
            have h10 := hhi l[k] ((List.drop_eq_getElem_cons hk').symm ▸ List.mem_cons_self)
            omega
    · refine hput fun hm => ?_
      have : k = l.length := by omega
      subst this
      have := hlo n (by simpa using hm)
      omega
  refine ⟨IN l.length fun k w' => w = w' ∧ ∀ x ∈ l.take k, x < n, MN l.length, IN_zero ⟨rfl, by simp⟩, ?_⟩
  rintro _ w1 ⟨k, rfl, hk, rfl, hlo⟩
  intros
  refine cond_dec (fun hlt => ?_) (fun hge => ?_)
  · have hk' : k < l.length := by omega
    refine h.ixI hk' fun q _ hc => LD_int hc ?_
    refine cond_dec (fun h1 => IN_next h.le hk' ⟨rfl, fun x hx => ?_⟩) (fun h1 => hfin k hk hlo fun x hx => ?_)
    · rw [List.take_succ_eq_append_getElem hk'] at hx
      rcases List.mem_append.1 hx with h2 | h2
      · exact hlo x h2
      · rw [List.mem_singleton.1 h2]; exact h1
    · rw [List.drop_eq_getElem_cons hk'] at hx
      have hp := hsorted
      rw [← List.take_append_drop k l, List.pairwise_append] at hp
      have := hp.2.1
      rw [List.drop_eq_getElem_cons hk', List.pairwise_cons] at this
      rcases List.mem_cons.1 hx with rfl | h2
      · omega
      · have := this.1 x h2; omega
  · have : k = l.length := by omega
    subst this
    exact hfin _ (Nat.le_refl _) hlo (by simp)

/-! ### The greedy set -/

instance (E : Ends) (l : List Int) (v : Nat) : Decidable (Apart E l v) := by unfold Apart; exact inferInstance

/-- May a node join? -/
def joins (E : Ends) (S : List Int) (v : Int) : Prop := (adjOf E v.toNat).contains v = false ∧ Apart E S v.toNat
instance (E : Ends) (S : List Int) (v : Int) : Decidable (joins E S v) := by unfold joins; exact inferInstance
structure OrderAsked (n : Net) (l : List Int) : Prop where
  good : Good n
  perm : PermOk l n.ends.length

end Go.Proofs.Ytnhidomgpbohiaa
end

section
/- Lists of lists of the call's own whose rows lie apart: rows that are written, that grow, that are added. No program is named here. -/
namespace Go.GX
open Go.RowKit

/-- The slice s of the call's own holds the rows ss, which read as the lists L and lie in blocks of their own. -/
structure RowsD {α : Type} [Flat α] (w : World) (base : Nat) (e e' : TypeId) (s : Sl) (L : List (List α)) (ss : List Sl) : Prop where
  own : OwnL w base e' s ss
  len : ss.length = L.length
  row : ∀ (i : Nat) (r : Sl) (l : List α), ss[i]? = some r → L[i]? = some l → OwnL w base e r l
  apart : ∀ (i j : Nat) (r q : Sl), ss[i]? = some r → ss[j]? = some q → i ≠ j → ∀ k, r.v.ownBlock = some k → q.v.ownBlock ≠ some k

section
variable {α : Type} [Flat α] {w w' : World} {base : Nat} {e e' : TypeId} {s : Sl} {L : List (List α)} {ss : List Sl}

theorem RowsD.own2 (h : RowsD w base e e' s L ss) : Own2 w base e e' s L := ⟨ss, h.own, h.len, h.row⟩
theorem RowsD.rep (h : RowsD w base e e' s L ss) (hok : ∀ l ∈ L, ∀ x ∈ l, Flat.ok x) : R w s L := h.own2.rep hok
theorem RowsD.nil (w : World) (base : Nat) (e e' : TypeId) : RowsD w base e e' ⟨none, 0, 0⟩ ([] : List (List α)) [] := ⟨OwnL.nil _ _ _, rfl, fun i r l h => by simp at h, fun i j r q h => by simp at h⟩
theorem RowsD.keep (h : RowsD w base e e' s L ss) (hk : ∀ k, base ≤ k → k < w.heap.size → w'.heap[k]? = w.heap[k]?) : RowsD w' base e e' s L ss :=
  ⟨h.own.keep fun k hb => hk k (h.own.blk k hb).1 (h.own.blk k hb).2, h.len, fun i r l hr hl => (h.row i r l hr hl).keep fun k hb => hk k ((h.row i r l hr hl).blk k hb).1 ((h.row i r l hr hl).blk k hb).2, h.apart⟩
theorem RowsD.ext (h : RowsD w base e e' s L ss) (hE : Ext w w') : RowsD w' base e e' s L ss := h.keep fun _ _ hk => hE.same hk
theorem RowsD.low (h : RowsD w base e e' s L ss) {b : Nat} (hb : b ≤ base) : RowsD w b e e' s L ss := ⟨h.own.low hb, h.len, fun i r l hr hl => (h.row i r l hr hl).low hb, h.apart⟩

theorem RowsD.at (h : RowsD w base e e' s L ss) {i : Nat} (hi : i < L.length) : ∃ r, ss[i]? = some r ∧ OwnL w base e r L[i] := by
  have h1 : i < ss.length := by rw [h.len]; exact hi
  exact ⟨ss[i], by simp [h1], h.row i ss[i] L[i] (by simp [h1]) (by simp [hi])⟩

/-- Looking up a row. -/
theorem RowsD.ix (h : RowsD w base e e' s L ss) {i : Nat} (hi : i < L.length) {K : Addr → Prop} (hk : ∀ p r, ss[i]? = some r → OwnL w base e r L[i] → w.cell? p = some r.v → s.v.ownBlock = some p.block → K p) : IX s i 1 K := by
  obtain ⟨r, hr, hO⟩ := h.at hi
  obtain ⟨a, cs, ha, _, hrep, hc⟩ := (h.own.rep fun _ _ => trivial).2.2 i r hr
  have hcs : cs = [r.v] := hrep
  subst hcs
  have hlen := h.own.1
  have hl2 := h.len
  refine ⟨a, ha, by omega, by omega, hk _ r hr hO (hc 0 _ rfl) ?_⟩
  have hsv : s.v = .slice (some a) s.len s.cap := by simp [Sl.v, ha]
  rw [hsv, add_block]
  rcases h.own.2.2 with ⟨hv, h0⟩ | ⟨g, cap, cur, hv, _⟩
  · omega
  · rw [hsv] at hv
    obtain ⟨h1, _⟩ := Value.slice.inj hv
    cases h1
    rfl

theorem RowsD.block_ne (h : RowsD w base e e' s L ss) (hne : e ≠ e') {i : Nat} {r : Sl} (hr : ss[i]? = some r) {k : Nat} (hk : r.v.ownBlock = some k) : s.v.ownBlock ≠ some k := fun he => by
  have hi : i < L.length := by rw [← h.len]; exact (List.getElem?_eq_some_iff.1 hr).1
  obtain ⟨c1, e1⟩ := (h.row i r L[i] hr (by simp [hi])).type hk
  obtain ⟨c2, e2⟩ := h.own.type he
  rw [e1] at e2
  exact hne (Obj.cells.inj (Option.some.inj e2)).2.1

/-- A row that is written in place. -/
theorem RowsD.chg (h : RowsD w base e e' s L ss) (hne : e ≠ e') {i : Nat} {r : Sl} (hr : ss[i]? = some r) {l' : List α} (hO : OwnL w' base e r l') (hs : Step w w' r.v.ownBlock) : RowsD w' base e e' s (L.set i l') ss := by
  have hi : i < L.length := by rw [← h.len]; exact (List.getElem?_eq_some_iff.1 hr).1
  refine ⟨h.own.keep fun k hk => hs.block k (h.own.blk k hk).2 fun he => h.block_ne hne hr he.symm hk, by simp [h.len], fun j q l hq hl => ?_, h.apart⟩
  by_cases hji : j = i
  · subst hji
    rw [List.getElem?_set_self hi] at hl
    rw [hr] at hq
    cases hl; cases hq
    exact hO
  · rw [List.getElem?_set_ne (Ne.symm hji)] at hl
    have hq' := h.row j q l hq hl
    exact hq'.keep fun k hk => hs.block k (hq'.blk k hk).2 fun he => h.apart i j r q hr hq (Ne.symm hji) k he.symm hk

/-- A row that is replaced: what it became lies in its block or in a new one. -/
theorem RowsD.put (h : RowsD w base e e' s L ss) (hne : e ≠ e') {i : Nat} (hi : i < L.length) {r r' : Sl} (hr : ss[i]? = some r) {w1 : World} {l' : List α} (hO : OwnL w1 base e r' l') (hs : Step w w1 r.v.ownBlock) (hn : NewOr w r r') {p : Addr} (hp : Plc s i 1 p) {K : World → Prop}
    (hk : ∀ w2, RowsD w2 base e e' s (L.set i l') (ss.set i r') → Step w1 w2 s.v.ownBlock → K w2) : ST p 0 [r'.v] w1 K := by
  have hi' : i < ss.length := by rw [h.len]; exact hi
  have hown : OwnL w1 base e' s ss := h.own.keep fun k hk => hs.block k (h.own.blk k hk).2 fun he => h.block_ne hne hr he.symm hk
  have hlt : ∀ (j : Nat) (q : Sl), ss[j]? = some q → ∀ k, q.v.ownBlock = some k → k < w.heap.size := fun j q hq k hk => by
    have hj : j < L.length := by rw [← h.len]; exact (List.getElem?_eq_some_iff.1 hq).1
    exact ((h.row j q L[j] hq (by simp [hj])).blk k hk).2
  have hap : ∀ (j : Nat) (q : Sl), ss[j]? = some q → j ≠ i → ∀ k, r'.v.ownBlock = some k → q.v.ownBlock ≠ some k := fun j q hq hji k hk hqk => by
    rcases hn with hn | hn
    · rw [hn] at hk
      exact h.apart i j r q hr hq (Ne.symm hji) k hk hqk
    · have := hn k hk
      have := hlt j q hq k hqk
      omega
  refine ST_own hown hi' (p := p) hp r' rfl fun w2 hO2 hs2 => hk w2 ⟨hO2, by simp [h.len], fun j q l hq hl => ?_, fun j k q q' hq hq' hjk => ?_⟩ hs2
  · have hst : ∀ {q : Sl} {l : List α}, OwnL w1 base e q l → OwnL w2 base e q l := fun hq => hq.step hown hne hs2
    by_cases hji : j = i
    · subst hji
      rw [List.getElem?_set_self hi] at hl
      rw [List.getElem?_set_self hi'] at hq
      cases hl; cases hq
      exact hst hO
    · rw [List.getElem?_set_ne (Ne.symm hji)] at hl hq
      have hq' := h.row j q l hq hl
      exact hst (hq'.keep fun k hk => hs.block k (hq'.blk k hk).2 fun he => h.apart i j r q hr hq (Ne.symm hji) k he.symm hk)
  · by_cases hji : j = i
    · subst hji
      rw [List.getElem?_set_self hi'] at hq
      rw [List.getElem?_set_ne hjk] at hq'
      cases hq
      exact hap k q' hq' (Ne.symm hjk)
    · rw [List.getElem?_set_ne (Ne.symm hji)] at hq
      by_cases hki : k = i
      · subst hki
        rw [List.getElem?_set_self hi'] at hq'
        cases hq'
        exact fun b hb hb' => hap j q hq hji b hb' hb
      · rw [List.getElem?_set_ne (Ne.symm hki)] at hq'
        exact h.apart j k q q' hq hq' hjk

end

/-- One more row. -/
theorem RUN_append_rowDF {α : Type} [Flat α] {P : Program} {t e e' : TypeId} {bytes : Nat} {z : Value} (hT : SlT P t e' 1 bytes z) (hne : e ≠ e') {w : World} {base b1 : Nat} {s y r : Sl} {L : List (List α)} {ss : List Sl} {l : List α} (h : RowsD w base e e' s L ss) (hbase : base ≤ w.heap.size)
    (hr : OwnL w base e r l) (hnew : ∀ (j : Nat) (q : Sl), ss[j]? = some q → ∀ k, q.v.ownBlock = some k → r.v.ownBlock ≠ some k) (hy : OwnL w b1 e' y [r]) (hlen : (L.length + 1) * bytes ≤ 140737488355328) (hmax : L.length + 1 ≤ maxLen) {K : Sl → World → Prop}
    (hk : ∀ s' w', RowsD w' base e e' s' (L ++ [l]) (ss ++ [r]) → Step w w' s.v.ownBlock → NewOr w s s' → K s' w') : RUN P (.at .sl) (bsem .append #[t, t] t #[s.v, y.v]) w K := by
  have hl2 := h.len
  refine RUN_appendF (α := Sl) hT h.own hbase (hy.rep fun _ _ => trivial).any (by simp [hl2]; exact hlen) (by simp [hl2]; exact hmax) fun s' w' hO hs hN => hk s' w' ⟨hO, by simp [hl2], fun i q m hq hm => ?_, fun i j q q' hq hq' hij => ?_⟩ hs hN
  · by_cases hi : i < ss.length
    · rw [List.getElem?_append_left hi] at hq
      rw [List.getElem?_append_left (by omega)] at hm
      exact (h.row i q m hq hm).step h.own hne hs
    · rw [List.getElem?_append_right (by omega)] at hq
      rw [List.getElem?_append_right (by omega), ← hl2] at hm
      have : i - ss.length = 0 := by
        have := (List.getElem?_eq_some_iff.1 hq).1
        simp at this; omega
      rw [this] at hq hm
      simp at hq hm
      subst hq; subst hm
      exact hr.step h.own hne hs
  · have hcase : ∀ {i : Nat} {q : Sl}, (ss ++ [r])[i]? = some q → (i < ss.length ∧ ss[i]? = some q) ∨ (i = ss.length ∧ q = r) := fun {i q} hq => by
      by_cases hi : i < ss.length
      · rw [List.getElem?_append_left hi] at hq; exact .inl ⟨hi, hq⟩
      · rw [List.getElem?_append_right (by omega)] at hq
        have h1 := (List.getElem?_eq_some_iff.1 hq).1
        simp at h1
        have h2 : i = ss.length := by omega
        subst h2
        simp at hq
        exact .inr ⟨rfl, hq.symm⟩
    rcases hcase hq with ⟨h1, h2⟩ | ⟨h1, rfl⟩ <;> rcases hcase hq' with ⟨h3, h4⟩ | ⟨h3, rfl⟩
    · exact h.apart i j q q' h2 h4 hij
    · exact hnew i q h2
    · exact fun k hk hk' => hnew j q' h4 k hk' hk
    · omega

theorem RUN_append_rowD {α : Type} [Flat α] {P : Program} {t e e' : TypeId} {bytes : Nat} {z : Value} (hT : SlT P t e' 1 bytes z) (hne : e ≠ e') {w : World} {base b1 : Nat} {s y r : Sl} {L : List (List α)} {ss : List Sl} {l : List α} (h : RowsD w base e e' s L ss) (hbase : base ≤ w.heap.size)
    (hr : OwnL w base e r l) (hnew : ∀ (j : Nat) (q : Sl), ss[j]? = some q → ∀ k, q.v.ownBlock = some k → r.v.ownBlock ≠ some k) (hy : OwnL w b1 e' y [r]) (hlen : (L.length + 1) * bytes ≤ 140737488355328) (hmax : L.length + 1 ≤ maxLen) {K : Sl → World → Prop}
    (hk : ∀ s' w', RowsD w' base e e' s' (L ++ [l]) (ss ++ [r]) → Step w w' s.v.ownBlock → K s' w') : RUN P (.at .sl) (bsem .append #[t, t] t #[s.v, y.v]) w K :=
  RUN_append_rowDF hT hne h hbase hr hnew hy hlen hmax fun s' w' h1 h2 _ => hk s' w' h1 h2

/-- One more row, made behind the others. -/
theorem RowsD.fresh {α : Type} [Flat α] {w w' : World} {base b1 : Nat} {e e' : TypeId} {s r : Sl} {L : List (List α)} {ss : List Sl} {l : List α} (h : RowsD w base e e' s L ss) (hr : OwnL w' b1 e r l) (hb : w.heap.size ≤ b1) : ∀ (j : Nat) (q : Sl), ss[j]? = some q → ∀ k, q.v.ownBlock = some k → r.v.ownBlock ≠ some k := fun j q hq k hk hrk => by
  have hj : j < L.length := by rw [← h.len]; exact (List.getElem?_eq_some_iff.1 hq).1
  have h1 := ((h.row j q L[j] hq (by simp [hj])).blk k hk).2
  have h2 := (hr.blk k hrk).1
  omega

end Go.GX
end

section
/- What the laws do with matrices: copy, compare, measure. Turned from our texts on a network's ends. -/
namespace Go.Proofs.Ytnhidomgpbohiaa
open Go.GX Go.RowKit
set_option maxRecDepth 100000

/-- A matrix of bounded size. -/
def SmallM (l : List (List Int)) : Prop := l.length ≤ 1048576 ∧ ∀ r ∈ l, r.length ≤ 1048576

theorem slt_rows : SlT Try.prog T.t_sl_sl_int T.t_sl_int 1 24 (.slice none 0 0) := ⟨by kernel_rfl, by kernel_rfl, rfl, by decide⟩

theorem toIntSS_own {w : World} {a : Sl} {l : List (List Int)} (h : R w a l) (hb : l.length ≤ 1048576) (hbb : ∀ r ∈ l, r.length ≤ 1048576) :
    Calls Try.prog F.l_toIntSS #[a.v] w (Ret [.at .sl] fun (s : Sl) w' => Ext w w' ∧ Own2 w' w.heap.size T.t_int T.t_sl_int s l) := by
  refine C_l_toIntSS ?_
  unfold V_l_toIntSS
  rw [h.len]
  refine RUN_make (α := Sl) slt_rows (d := ⟨none, 0, 0⟩) rfl (by omega) (by unfold maxLen; omega) fun s w1 hE1 hO1 => ?_
  refine ⟨IN l.length fun i w' => Ext w w' ∧ ∃ ss : List Sl, ss.length = l.length ∧ OwnL w' w.heap.size T.t_sl_int s ss ∧ ∀ (k : Nat) (q : Sl) (m : List Int), k < i → ss[k]? = some q → l[k]? = some m → OwnL w' w.heap.size T.t_int q m, MN l.length,
    IN_zero ⟨hE1, List.replicate l.length ⟨none, 0, 0⟩, by simp, hO1, fun k _ _ h3 => by omega⟩, ?_⟩
  rintro x w2 ⟨i, rfl, hi, hE, ss, hss, hO, hR⟩
  intros
  refine cond_dec (fun hlt => ?_) (fun hge => ?_)
  · have hlt' : i < l.length := by omega
    refine (h.ext hE).ixL hlt' fun p s' hs' hc => LD_sl hc ?_
    have hz := hE.size_le
    refine call (toIntS_ok hs'.any (hbb _ (List.getElem_mem _))) ?_
    rintro s3 w3 ⟨hE3, hO3⟩
    have hO' := hO.ext hE3
    refine IX_own hO' (by omega) rfl fun p hp => ?_
    refine ST_own hO' (by omega) hp s3 rfl fun w4 hO4 hs => ?_
    refine IN_next (by omega) hlt' ⟨hs.ext0 (hE.trans hE3) (fun k hk => (hO'.blk k hk).1), ss.set i s3, by simp [hss], hO4, fun k q m h1 h2 h3 => ?_⟩
    by_cases hk : k = i
    · subst hk
      rw [List.getElem?_set_self (by omega)] at h2
      rw [List.getElem?_eq_getElem hlt'] at h3
      cases h2
      cases h3
      exact (hO3.low hz).step hO' (by decide) hs
    · rw [List.getElem?_set_ne (Ne.symm hk)] at h2
      exact ((hR k q m (by omega) h2 h3).ext hE3).step hO' (by decide) hs
  · have : i = l.length := by omega
    subst this
    refine ⟨hE, ss, hO, hss, fun k q m h2 h3 => hR k q m (List.getElem?_eq_some_iff.1 h3).1 h2 h3⟩

theorem flat_okII {w : World} {s : Sl} {l : List (List Int)} (h : R w s l) : ∀ r ∈ l, ∀ x ∈ r, Flat.ok x := fun r hr x hx => by
  obtain ⟨i, hi, rfl⟩ := List.mem_iff_getElem.1 hr
  obtain ⟨_, _, _, _, ⟨s', _, h1⟩, _⟩ := h.2.2 i l[i] (by simp [hi])
  exact flat_ok h1 x hx

theorem szIntSS_ok {w : World} {a : Sl} {l : List (List Int)} (h : R w a l) (left : Int) (h0 : 0 ≤ left) (h1 : left ≤ 1048576) :
    Calls Try.prog F.l_szIntSS #[a.v, .int .i64 left] w (Ret [.at (.int .i64)] fun (x : Int) w' => (0 ≤ x → x ≤ left ∧ l.length ≤ left ∧ ∀ r ∈ l, r.length ≤ left) ∧ w = w') := by
  refine C_l_szIntSS ?_
  unfold V_l_szIntSS
  have := h.le
  rw [h.len, wrap_of (by omega) (by omega)]
  refine cond_dec (fun _ => ⟨by omega, rfl⟩) (fun hle => ?_)
  refine ⟨fun y x w' => w = w' ∧ 0 ≤ y ∧ y ≤ left ∧ ∃ i : Nat, x = i ∧ i ≤ l.length ∧ ∀ r ∈ l.take i, r.length ≤ left, fun _ x _ => l.length - x.toNat, ⟨rfl, by omega, by omega, 0, rfl, by omega, by simp⟩, ?_⟩
  rintro y x _ ⟨rfl, hy0, hy, i, rfl, hi, hr⟩
  intros
  refine cond_dec (fun hlt => ?_) (fun hge => ⟨fun _ => ⟨hy, by omega, ?_⟩, rfl⟩)
  · have hlt' : i < l.length := by omega
    refine h.ixL hlt' fun p s' hs' hc => LD_sl hc ?_
    refine call (szIntS_ok hs'.any y hy0 (by omega)) ?_
    rintro x _ ⟨hx, rfl⟩
    refine cond_dec (fun _ => ⟨by omega, rfl⟩) (fun hn => ?_)
    have hx' := hx (by omega)
    rw [wrap_of (by omega) (by omega)]
    refine ⟨⟨rfl, by omega, by omega, i + 1, by omega, hlt', fun r hr' => ?_⟩, by simp only []; omega⟩
    rw [List.take_succ_eq_append_getElem hlt'] at hr'
    rcases List.mem_append.1 hr' with h3 | h3
    · exact hr r h3
    · rw [List.mem_singleton.1 h3]; omega
  · have : i = l.length := by omega
    subst this
    simpa using hr

theorem eqIntSS_ok {w : World} {a b : Sl} {l m : List (List Int)} (ha : R w a l) (hb : R w b m) :
    Calls Try.prog F.l_eqIntSS #[a.v, b.v] w (Ret [.at .bool] fun (x : Bool) w' => x = decide (l = m) ∧ Ext w w') := by
  refine C_l_eqIntSS ?_
  unfold V_l_eqIntSS
  rw [ha.len, hb.len]
  refine cond_ne (fun hne => ⟨?_, Ext.refl _⟩) (fun he => ?_)
  · rw [decide_eq_false]; intro h; subst h; exact hne rfl
  · have hl : l.length = m.length := by omega
    refine ⟨IN l.length fun i w' => Ext w w' ∧ l.take i = m.take i, MN l.length, IN_zero ⟨Ext.refl _, by simp⟩, ?_⟩
    rintro x w1 ⟨i, rfl, hi, hE, ht⟩
    intros
    refine cond_dec (fun hlt => ?_) (fun hge => ⟨?_, hE⟩)
    · have h1 : i < l.length := by omega
      have h2 : i < m.length := by omega
      refine (ha.ext hE).ixL h1 fun p s1 hs1 hc => LD_sl hc ?_
      refine (hb.ext hE).ixL h2 fun p s2 hs2 hc => LD_sl hc ?_
      refine QCALL_bool _ (fun w' hw' => eqIntS_ok (hs1.any.ext hw') (hs2.any.ext hw')) ?_
      intro w2 hE2
      refine cond_not (fun hf => ⟨?_, hE.trans hE2⟩) (fun htr => ?_)
      · rw [decide_eq_false]; intro h; subst h; simp at hf
      · have heq : l[i] = m[i] := of_decide_eq_true htr
        exact IN_next ha.le h1 ⟨hE.trans hE2, by rw [List.take_succ_eq_append_getElem h1, List.take_succ_eq_append_getElem h2, ht, heq]⟩
    · have h3 : i = l.length := by omega
      subst h3
      rw [decide_eq_true]
      have h4 : m.take l.length = m := List.take_of_length_le (by omega)
      rw [h4, List.take_length] at ht
      exact ht

/-! ### Marks in matrices -/

/-- A matrix of the call's own: its rows lie apart from each other. -/
structure OutM (base : Nat) (w : World) (s : Sl) (L : List (List Int)) : Prop where
  ex : ∃ ss : List Sl, RowsD w base T.t_int T.t_sl_int s L ss
  i64 : ∀ r ∈ L, ∀ x ∈ r, I64 x
  rows : L.length ≤ 1048576
  small : ∀ r ∈ L, r.length ≤ 1048576

theorem OutM.own2 {base : Nat} {w : World} {s : Sl} {L : List (List Int)} (h : OutM base w s L) : Own2 w base T.t_int T.t_sl_int s L := by
  obtain ⟨ss, h1, h2, h3, _⟩ := h.ex
  exact ⟨ss, h1, h2, h3⟩
theorem OutM.rep {base : Nat} {w : World} {s : Sl} {L : List (List Int)} (h : OutM base w s L) : R w s L := h.own2.rep h.i64
theorem OutM.keep {base : Nat} {w w' : World} {s : Sl} {L : List (List Int)} (h : OutM base w s L) (hk : ∀ k, base ≤ k → k < w.heap.size → w'.heap[k]? = w.heap[k]?) : OutM base w' s L := by
  obtain ⟨ss, h1, h2, h3, h4⟩ := h.ex
  exact ⟨⟨ss, h1.keep fun k hb => hk k (h1.blk k hb).1 (h1.blk k hb).2, h2, fun i r l hr hl => (h3 i r l hr hl).keep fun k hb => hk k ((h3 i r l hr hl).blk k hb).1 ((h3 i r l hr hl).blk k hb).2, h4⟩, h.i64, h.rows, h.small⟩
theorem OutM.ext {base : Nat} {w w' : World} {s : Sl} {L : List (List Int)} (h : OutM base w s L) (hE : Ext w w') : OutM base w' s L := h.keep fun _ _ hk => hE.same hk
theorem OutM.nil (base : Nat) (w : World) : OutM base w ⟨none, 0, 0⟩ [] := ⟨⟨[], OwnL.nil _ _ _, rfl, fun i r l h => by simp at h, fun i j r q h => by simp at h⟩, by simp, by simp, by simp⟩
theorem OutM.low {base b : Nat} {w : World} {s : Sl} {L : List (List Int)} (h : OutM base w s L) (hb : b ≤ base) : OutM b w s L := by
  obtain ⟨ss, h1, h2, h3, h4⟩ := h.ex
  exact ⟨⟨ss, h1.low hb, h2, fun i r l hr hl => (h3 i r l hr hl).low hb, h4⟩, h.i64, h.rows, h.small⟩

/-- The blocks of a matrix's rows. -/
def RB (ss : List Sl) (b : Nat) : Prop := ∃ r ∈ ss, r.v.ownBlock = some b

/-! ### Two matrices that lie apart -/

/-- The blocks of a matrix. -/
def MB (s : Sl) (ss : List Sl) (b : Nat) : Prop := s.v.ownBlock = some b ∨ RB ss b

theorem _root_.Go.GX.RowsD.blk {w : World} {base : Nat} {s : Sl} {L : List (List Int)} {ss : List Sl} (h : RowsD w base T.t_int T.t_sl_int s L ss) {b : Nat} (hb : MB s ss b) : base ≤ b ∧ b < w.heap.size := by
  rcases hb with hb | ⟨r, hr, hb⟩
  · exact h.own.blk b hb
  · obtain ⟨i, hi, rfl⟩ := List.mem_iff_getElem.1 hr
    have hl := h.len
    exact (h.row i ss[i] (L[i]'(by omega)) (by simp [hi]) (by simp)).blk b hb

theorem _root_.Go.GX.RowsD.keepB {w w' : World} {base : Nat} {s : Sl} {L : List (List Int)} {ss : List Sl} (h : RowsD w base T.t_int T.t_sl_int s L ss) (hk : ∀ b, MB s ss b → w'.heap[b]? = w.heap[b]?) : RowsD w' base T.t_int T.t_sl_int s L ss :=
  ⟨h.own.keep fun b hb => hk b (.inl hb), h.len, fun i r l hr hl => (h.row i r l hr hl).keep fun b hb => hk b (.inr ⟨r, List.mem_of_getElem? hr, hb⟩), h.apart⟩

structure Out2M (base : Nat) (w : World) (s : Sl) (L : List (List Int)) (s' : Sl) (L' : List (List Int)) : Prop where
  ex : ∃ ss ss' : List Sl, RowsD w base T.t_int T.t_sl_int s L ss ∧ RowsD w base T.t_int T.t_sl_int s' L' ss' ∧ ∀ b, MB s ss b → ¬ MB s' ss' b
  i64 : ∀ r ∈ L, ∀ x ∈ r, I64 x
  rows : L.length ≤ 1048576
  small : ∀ r ∈ L, r.length ≤ 1048576
  i64' : ∀ r ∈ L', ∀ x ∈ r, I64 x
  rows' : L'.length ≤ 1048576
  small' : ∀ r ∈ L', r.length ≤ 1048576

theorem Out2M.keep {base : Nat} {w w' : World} {s s' : Sl} {L L' : List (List Int)} (h : Out2M base w s L s' L') (hk : ∀ k, base ≤ k → k < w.heap.size → w'.heap[k]? = w.heap[k]?) : Out2M base w' s L s' L' := by
  obtain ⟨ss, ss', h1, h2, h3⟩ := h.ex
  exact ⟨⟨ss, ss', h1.keepB fun b hb => hk b (h1.blk hb).1 (h1.blk hb).2, h2.keepB fun b hb => hk b (h2.blk hb).1 (h2.blk hb).2, h3⟩, h.i64, h.rows, h.small, h.i64', h.rows', h.small'⟩
theorem Out2M.ext {base : Nat} {w w' : World} {s s' : Sl} {L L' : List (List Int)} (h : Out2M base w s L s' L') (hE : Ext w w') : Out2M base w' s L s' L' := h.keep fun _ _ hk => hE.same hk
theorem Out2M.nil (base : Nat) (w : World) : Out2M base w ⟨none, 0, 0⟩ [] ⟨none, 0, 0⟩ [] :=
  ⟨⟨[], [], RowsD.nil _ _ _ _, RowsD.nil _ _ _ _, fun b hb => (by
    rcases hb with hb | ⟨r, hr, _⟩
    · cases hb
    · cases hr)⟩, by simp, by simp, by simp, by simp, by simp, by simp⟩
theorem Out2M.low {base b : Nat} {w : World} {s s' : Sl} {L L' : List (List Int)} (h : Out2M base w s L s' L') (hb : b ≤ base) : Out2M b w s L s' L' := by
  obtain ⟨ss, ss', h1, h2, h3⟩ := h.ex
  exact ⟨⟨ss, ss', ⟨h1.own.low hb, h1.len, fun i r l hr hl => (h1.row i r l hr hl).low hb, h1.apart⟩, ⟨h2.own.low hb, h2.len, fun i r l hr hl => (h2.row i r l hr hl).low hb, h2.apart⟩, h3⟩, h.i64, h.rows, h.small, h.i64', h.rows', h.small'⟩
theorem Out2M.rep {base : Nat} {w : World} {s s' : Sl} {L L' : List (List Int)} (h : Out2M base w s L s' L') : R w s L := by
  obtain ⟨ss, ss', h1, _, _⟩ := h.ex
  exact h1.rep h.i64
theorem MIntSS.chg {w w' : World} {s : Sl} {lo hi : Nat} (h : MIntSS w s lo hi) (hS : Shp w w') {l2 h2 : Nat} (hC : Chg w w' (fun b => l2 ≤ b ∧ b < h2)) (hlo : h2 ≤ lo) : MIntSS w' s lo hi := by
  obtain ⟨ss, h1, h3, h4⟩ := h.ex
  exact ⟨ss, h1.chg hC fun b hb hD => by have := (h1.blk b hb).1; have := hD.2; omega, h3, fun r hr => ⟨(h4 r hr).1.shp hS, (h4 r hr).2⟩⟩

theorem MIntSS.ext {w w' : World} {s : Sl} {lo hi : Nat} (h : MIntSS w s lo hi) (hE : Ext w w') : MIntSS w' s lo hi := by
  obtain ⟨ss, h1, h3, h4⟩ := h.ex
  exact ⟨ss, h1.ext hE, h3, fun r hr => ⟨(h4 r hr).1.ext hE, (h4 r hr).2⟩⟩

end Go.Proofs.Ytnhidomgpbohiaa
end

section
/- Configurations: lists of labels in order, both sides. -/
namespace Go.Proofs.Ytnhidomgpbohiaa
open Go.GX Go.RowKit
set_option maxRecDepth 100000

/-! ### Lists in the dictionary's order -/

def cmpL : List Int → List Int → Int
  | [], [] => 0
  | [], _ :: _ => -1
  | _ :: _, [] => 1
  | x :: a, y :: b => if x < y then -1 else if y < x then 1 else cmpL a b

theorem cmpL_zero : ∀ {a b : List Int}, cmpL a b = 0 ↔ a = b
  | [], [] => by simp [cmpL]
  | [], _ :: _ => by simp [cmpL]
  | _ :: _, [] => by simp [cmpL]
  | x :: a, y :: b => by
    rw [cmpL, List.cons.injEq, ← cmpL_zero (a := a) (b := b)]
    by_cases h1 : x < y
    · rw [if_pos h1]
      constructor
      · intro h; omega
      · intro h; omega
    · by_cases h2 : y < x
      · rw [if_neg h1, if_pos h2]
        constructor
        · intro h; omega
        · intro h; omega
      · rw [if_neg h1, if_neg h2]
        constructor
        · intro h; exact ⟨by omega, h⟩
        · intro h; exact h.2

theorem cmpL_trans : ∀ {a b c : List Int}, cmpL a b < 0 → cmpL b c < 0 → cmpL a c < 0
  | [], [], _, h, _ => by simp [cmpL] at h
  | [], _ :: _, [], _, h => by simp [cmpL] at h
  | [], _ :: _, _ :: _, _, _ => by simp [cmpL]
  | _ :: _, [], _, h, _ => by simp [cmpL] at h
  | _ :: _, _ :: _, [], _, h => by simp [cmpL] at h
  | x :: a, y :: b, z :: c, h, h' => by
    rw [cmpL] at h h' ⊢
    by_cases h1 : x < y
    · by_cases h2 : y < z
      · rw [if_pos (by omega)]; omega
      · rw [if_neg h2] at h'
        by_cases h3 : z < y
        · rw [if_pos h3] at h'; omega
        · rw [if_pos (by omega)]; omega
    · rw [if_neg h1] at h
      by_cases h4 : y < x
      · rw [if_pos h4] at h; omega
      · rw [if_neg h4] at h
        by_cases h2 : y < z
        · rw [if_pos (by omega)]; omega
        · rw [if_neg h2] at h'
          by_cases h3 : z < y
          · rw [if_pos h3] at h'; omega
          · rw [if_neg h3] at h'
            rw [if_neg (by omega), if_neg (by omega)]
            exact cmpL_trans h h'

/-- What is asked of a list of configurations. -/
structure ConfOk (L : List (List Int)) (size labels : Int) : Prop where
  row : ∀ i (h : i < L.length), (L[i].length : Int) = size ∧ L[i].Pairwise (· ≤ ·) ∧ AllIn L[i] 0 (labels - 1)
  rise : ∀ i (h : i + 1 < L.length), cmpL L[i] L[i + 1] < 0

theorem ConfOk.lt {L : List (List Int)} {size labels : Int} (h : ConfOk L size labels) : ∀ j i (_ : i < j) (hj : j < L.length), cmpL (L[i]'(by omega)) L[j] < 0 := by
  intro j
  induction j with
  | zero => intro i hi; omega
  | succ j ih =>
    intro i hi hj
    have h1 := h.rise j hj
    rcases Nat.lt_or_eq_of_le (Nat.le_of_lt_succ hi) with h2 | h2
    · exact cmpL_trans (ih i h2 (by omega)) h1
    · subst h2; exact h1

/-! ### Comparing -/

theorem isNaN_ok (x : Int) (w : World) : Calls Try.prog F.cmp_isNaN_int #[.int .i64 x] w (Ret [.at .bool] fun (b : Bool) w' => b = false ∧ w = w') := by
  refine C_cmp_isNaN_int ?_
  unfold V_cmp_isNaN_int
  exact ⟨by simp, rfl⟩

theorem cmpCompare_ok (x y : Int) (w : World) : Calls Try.prog F.cmp_Compare_int #[.int .i64 x, .int .i64 y] w (Ret [.at (.int .i64)] fun (r : Int) w' => r = (if x < y then -1 else if y < x then 1 else 0) ∧ w = w') := by
  refine C_cmp_Compare_int ?_
  unfold V_cmp_Compare_int
  refine call (isNaN_ok _ _) ?_
  rintro _ _ ⟨rfl, rfl⟩
  refine call (isNaN_ok _ _) ?_
  rintro _ _ ⟨rfl, rfl⟩
  refine cond_b (fun h => by cases h) (fun _ => cond_b (fun h => by cases h) (fun _ => ?_))
  refine cond_dec (fun h => ⟨by rw [if_pos h], rfl⟩) (fun h => cond_dec (fun h2 => ⟨by rw [if_neg h, if_pos h2], rfl⟩) (fun h2 => ⟨by rw [if_neg h, if_neg h2], rfl⟩))

theorem compare_ok {w : World} {s t : Sl} {a b : List Int} (ha : R w s a) (hb : R w t b) :
    Calls Try.prog F.slices_Compare_sl_int_int #[s.v, t.v] w (Ret [.at (.int .i64)] fun (r : Int) w' => r = cmpL a b ∧ w = w') := by
  refine C_slices_Compare_sl_int_int ?_
  unfold V_slices_Compare_sl_int_int
  rw [ha.len, hb.len]
  refine ⟨IN a.length fun i w' => w = w' ∧ i ≤ b.length ∧ cmpL a b = cmpL (a.drop i) (b.drop i), MN a.length, IN_zero ⟨rfl, by omega, by simp⟩, ?_⟩
  rintro _ _ ⟨i, rfl, hi, rfl, hib, he⟩
  intros
  refine cond_dec (fun hlt => ?_) (fun hge => ?_)
  · have hi' : i < a.length := by omega
    have hda : a.drop i = a[i] :: a.drop (i + 1) := List.drop_eq_getElem_cons hi'
    refine ha.ixI hi' fun q _ hc => LD_int hc ?_
    refine cond_dec (fun hge => ⟨?_, rfl⟩) (fun hlt2 => ?_)
    · have hdb0 : b.drop i = [] := List.drop_of_length_le (by omega)
      rw [he, hda, hdb0]; rfl
    have hi2 : i < b.length := by omega
    have hdb : b.drop i = b[i] :: b.drop (i + 1) := List.drop_eq_getElem_cons hi2
    refine hb.ixI hi2 fun q _ hc => LD_int hc ?_
    refine call (cmpCompare_ok _ _ _) ?_
    rintro _ _ ⟨rfl, rfl⟩
    rw [hda, hdb, cmpL] at he
    refine cond_ne (fun hne => ⟨?_, rfl⟩) (fun heq => ?_)
    · rw [he]
      by_cases h1 : a[i] < b[i]
      · rw [if_pos h1, if_pos h1]
      · by_cases h2 : b[i] < a[i]
        · rw [if_neg h1, if_pos h2, if_neg h1, if_pos h2]
        · rw [if_neg h1, if_neg h2] at hne; exact absurd rfl hne
    · have h1 : ¬ a[i] < b[i] := fun h => by
        have heq' : (if a[i] < b[i] then (-1 : Int) else if b[i] < a[i] then 1 else 0) = 0 := heq
        rw [if_pos h] at heq'; omega
      have h2 : ¬ b[i] < a[i] := fun h => by
        have heq' : (if a[i] < b[i] then (-1 : Int) else if b[i] < a[i] then 1 else 0) = 0 := heq
        rw [if_neg h1, if_pos h] at heq'; omega
      rw [if_neg h1, if_neg h2] at he
      exact IN_next ha.le hi' ⟨rfl, by omega, he⟩
  · have : i = a.length := by omega
    subst this
    rw [List.drop_length] at he
    refine cond_dec (fun hlt => ⟨?_, rfl⟩) (fun hge2 => ⟨?_, rfl⟩)
    · have hi2 : a.length < b.length := by omega
      rw [he, List.drop_eq_getElem_cons hi2]; rfl
    · rw [he, List.drop_of_length_le (by omega)]; rfl

/-! ### The reference's side -/

theorem l1Sign_ok (n : Int) (w : World) : Calls Try.prog F.s_l1Sign #[.int .i64 n] w (Ret [.at (.int .i64)] fun (r : Int) w' => r = (if n < 0 then -1 else if 0 < n then 1 else 0) ∧ w = w') := by
  refine C_s_l1Sign ?_
  unfold V_s_l1Sign
  refine cond_dec (fun h => ⟨by rw [if_neg (by omega), if_pos h], rfl⟩) (fun h => cond_dec (fun h2 => ⟨by rw [if_pos h2], rfl⟩) (fun h2 => ⟨by rw [if_neg h2, if_neg h], rfl⟩))

theorem prOrder_ok {w : World} {s t : Sl} {a b : List Int} (ha : R w s a) (hb : R w t b) (hl : a.length = b.length) {c : Int} (hc8 : c ≤ 1000) (hA : AllIn a 0 c) (hB : AllIn b 0 c) :
    Calls Try.prog F.s_prOrder #[s.v, t.v] w (Ret [.at (.int .i64)] fun (r : Int) w' => r = cmpL a b ∧ w = w') := by
  refine C_s_prOrder ?_
  unfold V_s_prOrder
  rw [ha.len]
  refine ⟨IN a.length fun i w' => w = w' ∧ cmpL a b = cmpL (a.drop i) (b.drop i), MN a.length, IN_zero ⟨rfl, by simp⟩, ?_⟩
  rintro _ _ ⟨i, rfl, hi, rfl, he⟩
  intros
  refine cond_dec (fun hlt => ?_) (fun hge => ?_)
  · have hi' : i < a.length := by omega
    have hi2 : i < b.length := by omega
    have hda : a.drop i = a[i] :: a.drop (i + 1) := List.drop_eq_getElem_cons hi'
    have hdb : b.drop i = b[i] :: b.drop (i + 1) := List.drop_eq_getElem_cons hi2
    have h1 := hA _ (List.getElem_mem hi')
    have h2 := hB _ (List.getElem_mem hi2)
    rw [hda, hdb, cmpL] at he
    refine ha.ixI hi' fun q _ hc => LD_int hc ?_
    refine hb.ixI hi2 fun q _ hc => LD_int hc ?_
    refine cond_ne (fun hne => ?_) (fun heq => ?_)
    · refine hb.ixI hi2 fun q _ hc => LD_int hc ?_
      rw [wrap_of (by omega) (by omega)]
      refine call (l1Sign_ok _ _) ?_
      rintro _ _ ⟨rfl, rfl⟩
      refine ⟨?_, rfl⟩
      rw [he]
      by_cases h3 : a[i] < b[i]
      · rw [if_pos h3, if_pos (by omega)]
      · have hne' : a[i] ≠ b[i] := hne
        rw [if_neg h3, if_neg (by omega), if_pos (by omega), if_pos (by omega)]
    · have heq' : a[i] = b[i] := heq
      rw [if_neg (by omega), if_neg (by omega)] at he
      exact IN_next ha.le hi' ⟨rfl, he⟩
  · have : i = a.length := by omega
    subst this
    rw [List.drop_length, List.drop_of_length_le (by omega)] at he
    exact ⟨he.symm, rfl⟩

end Go.Proofs.Ytnhidomgpbohiaa
end

section
/- Plain facts on walk problems and rooted problems: arcs, pruning, roots. No program in sight. -/
namespace Go.Proofs.Ytnhidomgpbohiaa
open Go.GX
set_option maxRecDepth 100000

structure WPr where
  labels : Int
  arcs : List (List Int)
structure RPr where
  labels : Int
  children : Int
  lines : List (List Int)

def arcE (A : List (List Int)) (a b : Nat) : Prop := [(a : Int), (b : Int)] ∈ A
/-- Rows that rise and have labels. -/
structure RowsUp (L : List (List Int)) (size labels : Int) : Prop where
  len : ∀ x ∈ L, (x.length : Int) = size
  lab : ∀ x ∈ L, AllIn x 0 (labels - 1)
  up : ∀ i (h : i + 1 < L.length), cmpL L[i] L[i + 1] < 0
theorem RowsUp.lt {L : List (List Int)} {size labels : Int} (h : RowsUp L size labels) : ∀ j i (_ : i < j) (hj : j < L.length), cmpL (L[i]'(by omega)) L[j] < 0 := by
  intro j
  induction j with
  | zero => intro i hi; omega
  | succ j ih =>
    intro i hi hj
    have h2 := h.up j hj
    by_cases he : i = j
    · subst he; exact h2
    · exact cmpL_trans (ih i (by omega) (by omega)) h2

structure WGood (p : WPr) : Prop where
  lab : 1 ≤ p.labels ∧ p.labels ≤ 12
  up : RowsUp p.arcs 2 p.labels
structure RoGood (p : RPr) : Prop where
  lab : 1 ≤ p.labels ∧ p.labels ≤ 8
  chi : 1 ≤ p.children ∧ p.children ≤ 3
  up : RowsUp p.lines (p.children + 1) p.labels
  sort : ∀ x ∈ p.lines, x.tail.Pairwise (· ≤ ·)

/-- Two rising lists with the same members. -/
theorem up_unique : ∀ {L M : List (List Int)}, L.Pairwise (fun x y => cmpL x y < 0) → M.Pairwise (fun x y => cmpL x y < 0) → (∀ x, x ∈ L ↔ x ∈ M) → L = M
  | [], [], _, _, _ => rfl
  | [], m :: M, _, _, h => by have := (h m).2 (by simp); simp at this
  | l :: L, [], _, _, h => by have := (h l).1 (by simp); simp at this
  | l :: L, m :: M, h1, h2, h => by
    rw [List.pairwise_cons] at h1 h2
    have irr : ∀ x, ¬ cmpL x x < 0 := fun x => by rw [cmpL_zero.2 rfl]; omega
    have e : l = m := by
      rcases List.mem_cons.1 ((h l).1 (by simp)) with h3 | h3
      · exact h3
      · rcases List.mem_cons.1 ((h m).2 (by simp)) with h4 | h4
        · exact h4.symm
        · exact absurd (cmpL_trans (h1.1 m h4) (h2.1 l h3)) (irr l)
    subst e
    rw [up_unique h1.2 h2.2 fun x => ⟨fun hx => ?_, fun hx => ?_⟩]
    · rcases List.mem_cons.1 ((h x).1 (List.mem_cons_of_mem _ hx)) with h3 | h3
      · subst h3; exact absurd (h1.1 x hx) (irr x)
      · exact h3
    · rcases List.mem_cons.1 ((h x).2 (List.mem_cons_of_mem _ hx)) with h3 | h3
      · subst h3; exact absurd (h2.1 x hx) (irr x)
      · exact h3

/-! ### The path form -/

/-- Some line with labels of a set has a label above another. -/
def pathE (lines : List (List Int)) (S : List Int) (a b : Nat) : Prop := ∃ x ∈ lines, (∀ y ∈ x, y ∈ S) ∧ x.head? = some (a : Int) ∧ (b : Int) ∈ x.tail

/-- The arcs of a path form, in order: rising, and these alone. -/
structure PathArcs (lines : List (List Int)) (S : List Int) (A : List (List Int)) : Prop where
  up : A.Pairwise (fun x y => cmpL x y < 0)
  mem : ∀ y, y ∈ A ↔ ∃ x ∈ lines, (∀ z ∈ x, z ∈ S) ∧ ∃ a, x.head? = some a ∧ ∃ b ∈ x.tail, y = [a, b]

theorem PathArcs.unique {lines : List (List Int)} {S : List Int} {A B : List (List Int)} (h : PathArcs lines S A) (h' : PathArcs lines S B) : A = B :=
  up_unique h.up h'.up fun x => (h.mem x).trans (h'.mem x).symm

theorem PathArcs.rel {lines : List (List Int)} {S : List Int} {A : List (List Int)} (h : PathArcs lines S A) : arcE A = pathE lines S := by
  funext a b
  refine propext ((h.mem _).trans ⟨?_, ?_⟩)
  · rintro ⟨x, hx, hS, c, hc, d, hd, he⟩
    simp only [List.cons.injEq, and_true] at he
    obtain ⟨rfl, rfl⟩ := he
    exact ⟨x, hx, hS, hc, hd⟩
  · rintro ⟨x, hx, hS, hc, hd⟩
    exact ⟨x, hx, hS, _, hc, _, hd, rfl⟩

theorem PathArcs.good {R : RPr} (hR : RoGood R) {S : List Int} {A : List (List Int)} (h : PathArcs R.lines S A) : WGood ⟨R.labels, A⟩ := by
  have hm : ∀ y ∈ A, (y.length : Int) = 2 ∧ AllIn y 0 (R.labels - 1) := fun y hy => by
    obtain ⟨x, hx, _, a, ha, b, hb, rfl⟩ := (h.mem y).1 hy
    refine ⟨rfl, fun z hz => ?_⟩
    have hl := hR.up.lab x hx
    simp only [List.mem_cons, List.not_mem_nil, or_false] at hz
    rcases hz with rfl | rfl
    · exact hl _ (List.mem_of_head? ha)
    · exact hl _ (List.mem_of_mem_tail hb)
  have hl := hR.lab
  exact ⟨⟨hl.1, by show R.labels ≤ 12; omega⟩, ⟨fun y hy => (hm y hy).1, fun y hy => (hm y hy).2, fun i hi => (List.pairwise_iff_getElem.1 h.up) i (i + 1) (by have : i + 1 < A.length := hi; omega) hi (by omega)⟩⟩

/-! ### Pruning -/

def allL (n : Nat) : List Int := (List.range n).map fun a : Nat => (a : Int)
noncomputable def pruneL (R : RPr) : Nat → List Int
  | 0 => allL R.labels.toNat
  | k + 1 => flexL (pathE R.lines (pruneL R k)) R.labels.toNat

/-- Where pruning ends. -/
def PruneEnd (R : RPr) (k : Nat) : Prop := pruneL R (k + 1) = [] ∨ pruneL R (k + 1) = pruneL R k
structure PruneIs (R : RPr) (L : List (List Int)) : Prop where
  ex : ∃ k, PruneEnd R k ∧ (∀ j < k, ¬ PruneEnd R j) ∧ L = (List.range (k + 2)).map (pruneL R)
theorem PruneIs.unique {R : RPr} {L M : List (List Int)} (h : PruneIs R L) (h' : PruneIs R M) : L = M := by
  obtain ⟨k, h1, h2, rfl⟩ := h.ex
  obtain ⟨j, h3, h4, rfl⟩ := h'.ex
  rcases Nat.lt_trichotomy k j with hlt | rfl | hgt
  · exact absurd h1 (h4 k hlt)
  · rfl
  · exact absurd h3 (h2 j hgt)

theorem lt_sub_sublist : ∀ {l m : List Int}, l.Pairwise (· < ·) → m.Pairwise (· < ·) → (∀ x ∈ l, x ∈ m) → l.Sublist m
  | [], m, _, _, _ => List.nil_sublist m
  | a :: l, [], _, _, h => by have := h a (by simp); simp at this
  | a :: l, b :: m, h1, h2, h => by
    rw [List.pairwise_cons] at h1 h2
    rcases List.mem_cons.1 (h a (by simp)) with he | hm
    · subst he
      refine (lt_sub_sublist h1.2 h2.2 fun x hx => ?_).cons_cons a
      rcases List.mem_cons.1 (h x (by simp [hx])) with h3 | h3
      · subst h3; have := h1.1 x hx; omega
      · exact h3
    · refine (lt_sub_sublist (l := a :: l) (List.pairwise_cons.2 h1) h2.2 fun x hx => ?_).cons b
      rcases List.mem_cons.1 hx with rfl | hx
      · exact hm
      · rcases List.mem_cons.1 (h x (by simp [hx])) with h3 | h3
        · subst h3
          have := h1.1 x hx
          have := h2.1 a hm
          omega
        · exact h3

/-! ### The labels of roots -/

theorem allL_mem {n : Nat} {x : Int} : x ∈ allL n ↔ ∃ a : Nat, x = a ∧ a < n := by
  unfold allL
  rw [List.mem_map]
  exact ⟨fun ⟨a, h, e⟩ => ⟨a, e.symm, List.mem_range.1 h⟩, fun ⟨a, e, h⟩ => ⟨a, List.mem_range.2 h, e.symm⟩⟩
end Go.Proofs.Ytnhidomgpbohiaa
end

section
/- Walk problems, the program: what follows a label, what walks reach. -/
namespace Go.Proofs.Ytnhidomgpbohiaa
open Go.GX Go.RowKit
set_option maxRecDepth 100000

structure RWk (w : World) (s : Sl) (p : WPr) : Prop where
  lab : I64 p.labels
  arcs : R w s p.arcs
theorem RWk.ext {w w' : World} {s : Sl} {p : WPr} (h : RWk w s p) (hE : Ext w w') : RWk w' s p := ⟨h.lab, h.arcs.ext hE⟩

theorem LD_is {w : World} {p : Addr} {t : TypeId} {x : Int} {z : Sl} {r : List Value} {K : Int → Sl → Prop} (hb : Box w p t (.int .i64 x :: z.v :: r)) (hk : K x z) : LD [.int .i64, .sl] p w K := by
  refine ⟨[.int .i64 x, z.v], rfl, fun i v hv => ?_, hk⟩
  match i, hv with
  | 0, hv => exact hb.cell (i := 0) hv
  | 1, hv => exact hb.cell (i := 1) hv
  | i + 2, hv => simp at hv

theorem one2 (x : Int) (z : Sl) : ∀ v ∈ [Value.int .i64 x, z.v], v.oneCell' = true := by intro v hv; simp at hv; rcases hv with rfl | rfl <;> rfl

/-- The arcs are pairs of labels. -/
theorem WGood.arc {p : WPr} (h : WGood p) {x : List Int} (hx : x ∈ p.arcs) : ∃ a b : Nat, x = [(a : Int), (b : Int)] ∧ a < p.labels.toNat ∧ b < p.labels.toNat := by
  have h1 := h.up.len x hx
  have h2 := h.up.lab x hx
  match x, h1, h2 with
  | [u, v], _, h2 =>
    have h3 := h2 u (by simp)
    have h4 := h2 v (by simp)
    exact ⟨u.toNat, v.toNat, by rw [Int.toNat_of_nonneg h3.1, Int.toNat_of_nonneg h4.1], by omega, by omega⟩
theorem WGood.rel {p : WPr} (h : WGood p) {a b : Nat} (he : arcE p.arcs a b) : a < p.labels.toNat ∧ b < p.labels.toNat := by
  obtain ⟨c, d, e, h1, h2⟩ := h.arc he
  simp only [List.cons.injEq, and_true] at e
  omega

noncomputable def afterL (A : List (List Int)) (n : Nat) : List Int := (List.range n).map fun a => ((maskP n (arcE A a) : Nat) : Int)
theorem afterL_len (A : List (List Int)) (n : Nat) : (afterL A n).length = n := by simp [afterL]
theorem afterL_get {A : List (List Int)} {n a : Nat} (h : a < (afterL A n).length) : (afterL A n)[a] = ((maskP n (arcE A a) : Nat) : Int) := by simp [afterL]
theorem mask_I64 {n : Nat} (hn : n ≤ 12) (P : Nat → Prop) : I64 ((maskP n P : Nat) : Int) := by
  have := maskP_small hn P
  unfold I64; omega
theorem afterL_I64 {A : List (List Int)} {n : Nat} (hn : n ≤ 12) : ∀ x ∈ afterL A n, I64 x := fun x hx => by
  obtain ⟨a, _, rfl⟩ := List.mem_map.1 hx
  exact mask_I64 hn _

theorem after_step {A : List (List Int)} {n i a b : Nat} (hi : i < A.length) (he : A[i] = [(a : Int), (b : Int)]) : afterL (A.take (i + 1)) n = (afterL (A.take i) n).set a ((maskP n (fun c => arcE (A.take i) a c ∨ c = b) : Nat) : Int) := by
  apply List.ext_getElem
  · simp [afterL]
  · intro c h1 h2
    have hc : c < n := by rw [afterL_len] at h1; exact h1
    rw [afterL_get h1, List.getElem_set, List.take_succ_eq_append_getElem hi, he]
    by_cases hac : a = c
    · subst hac
      rw [if_pos rfl]
      congr 1
      refine maskP_congr fun d hd => ?_
      unfold arcE
      rw [List.mem_append, List.mem_singleton]
      simp only [List.cons.injEq, true_and, and_true, Int.natCast_inj]
    · rw [if_neg hac, afterL_get]
      congr 1
      refine maskP_congr fun d hd => ?_
      unfold arcE
      rw [List.mem_append, List.mem_singleton]
      simp only [List.cons.injEq, and_true, Int.natCast_inj]
      exact ⟨fun h => h.resolve_right fun h => hac h.1.symm, .inl⟩

theorem after_ok {w : World} {s : Sl} {p : WPr} (h : RWk w s p) (hg : WGood p) :
    Calls Try.prog F.i_WalkProblem_after #[.agg #[.int .i64 p.labels, s.v]] w (Ret [.at .sl] fun (r : Sl) w' => Ext w w' ∧ OwnL w' w.heap.size T.t_int r (afterL p.arcs p.labels.toNat)) := by
  refine C_i_WalkProblem_after ?_
  unfold V_i_WalkProblem_after
  refine NEW_intro fun pp w1 hp1 hs1 hE1 hb1 => LD_bi0 hb1 ?_
  have hl := hg.lab
  obtain ⟨n, hn⟩ : ∃ n : Nat, p.labels = n := ⟨p.labels.toNat, by omega⟩
  have hnt : p.labels.toNat = n := by omega
  rw [hnt, hn]
  refine RUN_make (α := Int) slt_int (d := 0) rfl (by omega) (by unfold maxLen; omega) fun r w2 hE2 hO2 => ?_
  have hE12 := hE1.trans hE2
  have hz1 := hE1.size_le
  have h2 := h.ext hE12
  refine LD_bs1 (hb1.ext hE2) ?_
  rw [h.arcs.len]
  refine ⟨IN p.arcs.length fun i w' => Ext w w' ∧ OwnL w' w1.heap.size T.t_int r (afterL (p.arcs.take i) n), MN p.arcs.length, IN_zero ⟨hE12, ?_⟩, ?_⟩
  · have e : afterL (p.arcs.take 0) n = List.replicate n 0 := by
      apply List.ext_getElem
      · simp [afterL]
      · intro c h1 h2
        rw [afterL_get h1, List.getElem_replicate, maskP_none]
        · rfl
        · intro a _ ha; simp [arcE] at ha
    rw [e]; exact hO2
  rintro _ w3 ⟨i, rfl, hi, hE3, hO3⟩
  intros
  refine cond_dec (fun hlt => ?_) (fun hge => ?_)
  · have hi' : i < p.arcs.length := by omega
    refine (h.arcs.ext hE3).ixL hi' fun q row hrow hc => LD_sl hc ?_
    intro w4 hE4 _
    obtain ⟨a, b, he, ha, hb⟩ := hg.arc (List.getElem_mem hi')
    rw [hnt] at ha hb
    rw [he] at hrow
    have hrow4 := hrow.any.ext hE4
    have hO4 := hO3.ext hE4
    have han : a < (afterL (p.arcs.take i) n).length := by rw [afterL_len]; exact ha
    refine ⟨fun _ => False, ?_⟩
    refine hrow4.ixI (i := 0) (by simp) fun q0 _ hc0 => ⟨not_false, LD_int hc0 ?_⟩
    refine (hO4.rep (afterL_I64 (by omega))).any.ixI (i := a) han fun q1 _ hc1 => ⟨not_false, LD_int hc1 ⟨Chg.refl _ _, ?_⟩⟩
    refine hrow4.ixI (i := 1) (by simp) fun q2 _ hc2 => ⟨Chg.refl _ _, LD_int hc2 ⟨Chg.refl _ _, ?_⟩⟩
    show (0 : Int) ≤ (b : Int) ∧ _
    refine ⟨by omega, Chg.refl _ _, Chg.refl _ _, ?_⟩
    rw [afterL_get han]
    have e3 : bitOr .i64 ((maskP n (arcE (p.arcs.take i) a) : Nat) : Int) (shlI .i64 1 (b : Int)) = ((maskP n (fun c => arcE (p.arcs.take i) a c ∨ c = b) : Nat) : Int) := by
      rw [shl_maskP (by omega) hb, or_maskP (by omega)]
    refine IX_own hO4 han rfl fun q3 hq3 => ?_
    refine ST_own hO4 han hq3 (bitOr .i64 ((maskP n (arcE (p.arcs.take i) a) : Nat) : Int) (shlI .i64 1 (b : Int))) rfl fun w5 hO5 hs5 => ?_
    rw [e3, ← after_step hi' he] at hO5
    exact IN_next h.arcs.le hi' ⟨hs5.ext0 (hE3.trans hE4) fun k hk => by have := (hO3.blk k hk).1; omega, hO5⟩
  · have : i = p.arcs.length := by omega
    subst this
    rw [List.take_length] at hO3
    exact ⟨hE3, hO3.low hz1⟩

/-! ### What walks reach -/

noncomputable def reachL (E : Nat → Nat → Prop) (n a m : Nat) : List Int := (List.range m).map fun k => ((maskP n (fun b => Wk E k a b) : Nat) : Int)
theorem reachL_len (E : Nat → Nat → Prop) (n a m : Nat) : (reachL E n a m).length = m := by simp [reachL]
theorem reachL_get {E : Nat → Nat → Prop} {n a m k : Nat} (h : k < (reachL E n a m).length) : (reachL E n a m)[k] = ((maskP n (fun b => Wk E k a b) : Nat) : Int) := by simp [reachL]
theorem reachL_I64 {E : Nat → Nat → Prop} {n a m : Nat} (hn : n ≤ 12) : ∀ x ∈ reachL E n a m, I64 x := fun x hx => by
  obtain ⟨a, _, rfl⟩ := List.mem_map.1 hx
  exact mask_I64 hn _
theorem reachL_snoc (E : Nat → Nat → Prop) (n a m : Nat) : reachL E n a (m + 1) = reachL E n a m ++ [((maskP n (fun b => Wk E m a b) : Nat) : Int)] := by
  unfold reachL
  rw [List.range_succ, List.map_append, List.map_singleton]

theorem reached_ok {w : World} {s : Sl} {p : WPr} {a m : Nat} (h : RWk w s p) (hg : WGood p) (ha : a < p.labels.toNat) (hm : m ≤ 1000) :
    Calls Try.prog F.i_WalkProblem_reached #[.agg #[.int .i64 p.labels, s.v], .int .i64 a, .int .i64 m] w (Ret [.at .sl] fun (r : Sl) w' => Ext w w' ∧ OwnL w' w.heap.size T.t_int r (reachL (arcE p.arcs) p.labels.toNat a (m + 1))) := by
  refine C_i_WalkProblem_reached ?_
  unfold V_i_WalkProblem_reached
  refine NEW_intro fun pp w1 hp1 hs1 hE1 hb1 => LD_is hb1 ?_
  have hl := hg.lab
  generalize hE' : arcE p.arcs = E
  refine call (after_ok (h.ext hE1) hg) ?_
  rintro t w2 ⟨hE2, hO2⟩
  have hrel : ∀ x y, E x y → x < p.labels.toNat ∧ y < p.labels.toNat := fun x y hxy => hg.rel (by rw [hE']; exact hxy)
  generalize hnt : p.labels.toNat = n at *
  have hn12 : n ≤ 12 := by omega
  have hR2 : R w2 t (afterL p.arcs n) := (hO2.rep (afterL_I64 hn12)).any
  have hE12 := hE1.trans hE2
  refine ⟨by omega, ?_⟩
  refine RUN_lit1 (α := Int) slt_int (shlI .i64 1 (a : Int)) rfl (by decide) fun r w3 hE3 hO3 => ?_
  have hz1 := hE1.size_le
  have hz2 := hE2.size_le
  have hz3 := hE3.size_le
  refine ⟨IN2 m fun k (out : Sl) w' => Ext w2 w' ∧ OwnL w' w2.heap.size T.t_int out (reachL E n a (k + 1)), MN2 m, IN2_zero ⟨hE3, ?_⟩, ?_⟩
  · have e : reachL E n a (0 + 1) = [shlI .i64 1 (a : Int)] := by
      rw [reachL_snoc, shl_maskP hn12 ha]
      simp only [reachL, List.range_zero, List.map_nil, List.nil_append, List.cons.injEq, and_true]
      congr 1
      exact maskP_congr fun b _ => ⟨fun h => (show b = a from (show a = b from h).symm), fun h => (show a = b from h.symm)⟩
    rw [e]; exact hO3
  rintro out _ w4 ⟨k, rfl, hk, hE4, hO4⟩
  intros
  refine cond_dec (fun hlt => ?_) (fun hge => ?_)
  · have hk' : k < m := by omega
    have hkl : k < (reachL E n a (k + 1)).length := by rw [reachL_len]; omega
    refine (hO4.rep (reachL_I64 hn12)).any.ixI hkl fun q _ hc => LD_int hc ?_
    rw [reachL_get hkl]
    refine call (labels12_ok (maskP_small hn12 _) w4) ?_
    rintro u w5 ⟨hE5, hO5⟩
    generalize hL : labs (maskP n fun b => Wk E k a b) = L at hO5
    have hL64 : ∀ x ∈ L, I64 x := by subst hL; exact labs_I64 _
    have hLlen : L.length ≤ 12 := by subst hL; exact labs_len _
    have hLm : ∀ x, x ∈ L ↔ ∃ b : Nat, x = b ∧ b < n ∧ Wk E k a b := by subst hL; exact fun x => mem_labsP hn12
    have hRu := (hO5.rep hL64).any
    have hE25 := hE4.trans hE5
    rw [hRu.len]
    refine ⟨IN2 L.length fun j (x : Int) w' => w' = w5 ∧ x = ((maskP n (fun c => ∃ b : Nat, (b : Int) ∈ L.take j ∧ E b c) : Nat) : Int), MN2 L.length, IN2_zero ⟨rfl, ?_⟩, ?_⟩
    · rw [maskP_none (fun c _ => by simp)]; rfl
    rintro _ _ _ ⟨j, rfl, hj, rfl, rfl⟩
    intros
    refine cond_dec (fun hlt2 => ?_) (fun hge2 => ?_)
    · have hj' : j < L.length := by omega
      refine hRu.ixI hj' fun q2 _ hc2 => LD_int hc2 ?_
      obtain ⟨b, hb, hbn, hbw⟩ := (hLm L[j]).1 (List.getElem_mem hj')
      rw [hb]
      have hbl : b < (afterL p.arcs n).length := by rw [afterL_len]; exact hbn
      refine (hR2.ext hE25).ixI hbl fun q3 _ hc3 => LD_int hc3 ?_
      rw [afterL_get hbl, hE', or_maskP hn12]
      refine IN2_next (by omega) hj' ⟨rfl, ?_⟩
      congr 1
      refine maskP_congr fun c _ => ?_
      rw [List.take_succ_eq_append_getElem hj', hb]
      constructor
      · rintro (⟨x, hx, hxe⟩ | hbe)
        · exact ⟨x, List.mem_append_left _ hx, hxe⟩
        · exact ⟨b, by simp, hbe⟩
      · rintro ⟨x, hx, hxe⟩
        rcases List.mem_append.1 hx with hx | hx
        · exact .inl ⟨x, hx, hxe⟩
        · have : x = b := by have := List.mem_singleton.1 hx; omega
          subst this
          exact .inr hxe
    · have : j = L.length := by omega
      subst this
      rw [List.take_length]
      have e4 : maskP n (fun c => ∃ b : Nat, (b : Int) ∈ L ∧ E b c) = maskP n (fun b => Wk E (k + 1) a b) := maskP_congr fun c _ => by
        constructor
        · rintro ⟨b, hb, he⟩
          obtain ⟨b', e, _, hw⟩ := (hLm b).1 hb
          have : b = b' := by omega
          subst this
          exact ⟨b, hw, he⟩
        · rintro ⟨b, hw, he⟩
          exact ⟨b, (hLm b).2 ⟨b, rfl, (hrel b c he).1, hw⟩, he⟩
      rw [e4]
      refine RUN_lit1 (α := Int) slt_int (((maskP n (fun b => Wk E (k + 1) a b) : Nat) : Int)) rfl (by decide) fun y w7 hE7 hO7 => ?_
      have hz4 := hE4.size_le
      have hE57 := hE5.trans hE7
      have hz57 := hE57.size_le
      refine RUN_append (α := Int) slt_int (hO4.ext hE57) (by omega) (hO7.rep (by intro x hx; rw [List.mem_singleton.1 hx]; exact mask_I64 hn12 _)).any (by rw [reachL_len]; simp; omega) (by rw [reachL_len]; simp [maxLen]; omega) fun r' w8 hO8 hs8 => ?_
      rw [← reachL_snoc] at hO8
      exact IN2_next (by omega) hk' ⟨hs8.ext0 (hE4.trans hE57) fun b hb => (hO4.blk b hb).1, hO8⟩
  · have : k = m := by omega
    subst this
    exact ⟨hE12.trans hE4, hO4.low (by omega)⟩

end Go.Proofs.Ytnhidomgpbohiaa
end

section
/- A growing list of lists (of any kind) whose parts are only read: the array is the call's own, its parts lie elsewhere. -/
namespace Go.GX
open Go.RowKit
set_option maxRecDepth 100000

/-- Arrays of different kinds lie apart. -/
theorem own_apart {α β : Type} [Flat α] [Flat β] {w : World} {base base' : Nat} {e e' : TypeId} {s s' : Sl} {l : List α} {l' : List β} (h : OwnL w base e s l) (h' : OwnL w base' e' s' l') (hne : e ≠ e') : ∀ b, s.v.ownBlock = some b → ¬ s'.v.ownBlock = some b := fun b hb hb' => by
  obtain ⟨c1, e1⟩ := h.type hb
  obtain ⟨c2, e2⟩ := h'.type hb'
  rw [e1] at e2
  exact hne (Obj.cells.inj (Option.some.inj e2)).2.1

structure RowsR {α : Type} [RepP α] (base : Nat) (e : TypeId) (w : World) (s : Sl) (L : List (List α)) : Prop where
  ex : ∃ ss : List Sl, OwnL w base e s ss ∧ ss.length = L.length ∧ ∀ j (h1 : j < ss.length) (h2 : j < L.length), SlR (fun b => s.v.ownBlock ≠ some b) w ss[j] L[j]

section
variable {α : Type} [RepP α] {base : Nat} {e : TypeId} {w w' : World} {s : Sl} {L : List (List α)}

theorem RowsR.rep (h : RowsR base e w s L) : R w s L := by
  obtain ⟨ss, hO, hl, hr⟩ := h.ex
  exact OwnL.rows (D := fun _ => True) hO hl (fun j h1 h2 => (hr j h1 h2).any) fun _ _ => trivial
theorem RowsR.ext (h : RowsR base e w s L) (hE : Ext w w') : RowsR base e w' s L := by
  obtain ⟨ss, hO, hl, hr⟩ := h.ex
  exact ⟨ss, hO.ext hE, hl, fun j h1 h2 => (hr j h1 h2).ext hE⟩
theorem RowsR.nil (base : Nat) (e : TypeId) (w : World) : RowsR base e w ⟨none, 0, 0⟩ ([] : List (List α)) := ⟨[], OwnL.nil _ _ _, rfl, fun j h1 => by simp at h1⟩
theorem RowsR.blk (h : RowsR base e w s L) {k : Nat} (hk : s.v.ownBlock = some k) : base ≤ k ∧ k < w.heap.size := by
  obtain ⟨ss, hO, _⟩ := h.ex
  exact hO.blk k hk
theorem RowsR.low (h : RowsR base e w s L) {b : Nat} (hb : b ≤ base) : RowsR b e w s L := by
  obtain ⟨ss, hO, hl, hr⟩ := h.ex
  exact ⟨ss, hO.low hb, hl, hr⟩
/-- A list of one, its part made before the array. -/
theorem RowsR.one {b1 : Nat} {w0 : World} {r : Sl} {l : List α} (hE : Ext w0 w) (hO : OwnL w b1 e s [r]) (hb1 : w0.heap.size ≤ b1) (hb : base ≤ b1) (hR : R w0 r l) : RowsR base e w s [l] :=
  ⟨_, hO.low hb, rfl, fun j h1 h2 => by
    have hj : j = 0 := by simp at h2; omega
    subst hj
    have hk : ∀ b, True → b < w0.heap.size → s.v.ownBlock ≠ some b := fun b _ hlt he => by have := (hO.blk b he).1; omega
    exact (hR.weak hk RepP.pos).ext hE⟩

/-- What is made after w0 does not lie in an array that was there. -/
theorem RowsR.new (h : RowsR base e w s L) {w1 : World} {r : Sl} {β : Type} [RepP β] {l : List β} (hr : SlR (fun b => w.heap.size ≤ b) w1 r l) : SlR (fun b => s.v.ownBlock ≠ some b) w1 r l :=
  hr.weak (fun b hb _ he => by have := (h.blk he).2; omega) RepP.pos

/-- The same, the parts lying off some more blocks. -/
structure RowsX (X : Nat → Prop) (base : Nat) (e : TypeId) (w : World) (s : Sl) (L : List (List α)) : Prop where
  ex : ∃ ss : List Sl, OwnL w base e s ss ∧ ss.length = L.length ∧ ∀ j (h1 : j < ss.length) (h2 : j < L.length), SlR (fun b => s.v.ownBlock ≠ some b ∧ ¬ X b) w ss[j] L[j]

theorem RowsX.rep {X : Nat → Prop} (h : RowsX X base e w s L) : R w s L := by
  obtain ⟨ss, hO, hl, hr⟩ := h.ex
  exact OwnL.rows (D := fun _ => True) hO hl (fun j h1 h2 => (hr j h1 h2).any) fun _ _ => trivial
theorem RowsX.ext {X : Nat → Prop} (h : RowsX X base e w s L) (hE : Ext w w') : RowsX X base e w' s L := by
  obtain ⟨ss, hO, hl, hr⟩ := h.ex
  exact ⟨ss, hO.ext hE, hl, fun j h1 h2 => (hr j h1 h2).ext hE⟩
theorem RowsX.nil (X : Nat → Prop) (base : Nat) (e : TypeId) (w : World) : RowsX X base e w ⟨none, 0, 0⟩ ([] : List (List α)) := ⟨[], OwnL.nil _ _ _, rfl, fun j h1 => by simp at h1⟩
theorem RowsX.blk {X : Nat → Prop} (h : RowsX X base e w s L) {k : Nat} (hk : s.v.ownBlock = some k) : base ≤ k ∧ k < w.heap.size := by
  obtain ⟨ss, hO, _⟩ := h.ex
  exact hO.blk k hk
/-- Something outside the array changes. -/
theorem RowsX.chg {X X' : Nat → Prop} (h : RowsX X base e w s L) (hC : Chg w w' X) (hs : ∀ b, s.v.ownBlock = some b → ¬ X b) (hX : ∀ b, X' b → b < w.heap.size → X b) : RowsX X' base e w' s L := by
  obtain ⟨ss, hO, hl, hr⟩ := h.ex
  exact ⟨ss, hO.keep fun b hb => hC.block b (hO.blk b hb).2 (hs b hb), hl, fun j h1 h2 =>
    ((hr j h1 h2).weak (D' := fun b => (s.v.ownBlock ≠ some b ∧ ¬ X b) ∧ ¬ X' b) (fun b h3 h4 => ⟨h3, fun hx => h3.2 (hX b hx h4)⟩) RepP.pos).chg hC (fun b hb _ => hb.1.2) |>.weak (fun b hb _ => ⟨hb.1.1, hb.2⟩) RepP.pos⟩

theorem RUN_append_X {X : Nat → Prop} {P : Program} {t : TypeId} {bytes : Nat} {z : Value} (hT : SlT P t e 1 bytes z) {b1 : Nat} {y r : Sl} {l : List α} (h : RowsX X base e w s L) (hbase : base ≤ w.heap.size) (hE : Ext w w') (hr : SlR (fun b => s.v.ownBlock ≠ some b ∧ ¬ X b) w' r l)
    (hy : OwnL w' b1 e y [r]) (hlen : (L.length + 1) * bytes ≤ 140737488355328) (hmax : L.length + 1 ≤ maxLen) {K : Sl → World → Prop}
    (hk : ∀ s' w2, RowsX X base e w2 s' (L ++ [l]) → Step w' w2 s.v.ownBlock → NewOr w' s s' → K s' w2) : RUN P (.at .sl) (bsem .append #[t, t] t #[s.v, y.v]) w' K := by
  obtain ⟨ss, hO, hl, hss⟩ := h.ex
  have hO1 := hO.ext hE
  have hsz := hE.size_le
  refine RUN_appendF (α := Sl) hT hO1 (by omega) (hy.rep fun _ _ => trivial) (by simpa [hl] using hlen) (by simpa [hl] using hmax) fun s' w2 hO2 hs2 hN => hk s' w2 ⟨_, hO2, by simp [hl], fun j h1 h2 => ?_⟩ hs2 hN
  have hw : ∀ b, s.v.ownBlock ≠ some b → b < w'.heap.size → s'.v.ownBlock ≠ some b := fun b hb hlt he => by
    rcases hN with hN | hN
    · exact hb (hN ▸ he)
    · have := hN b he; omega
  have main : ∀ {r : Sl} {q : List α}, SlR (fun b => s.v.ownBlock ≠ some b ∧ ¬ X b) w' r q → SlR (fun b => s'.v.ownBlock ≠ some b ∧ ¬ X b) w2 r q := fun {r q} hR =>
    (SlR.stepD (hR.weak (D' := fun b => s.v.ownBlock ≠ some b ∧ s'.v.ownBlock ≠ some b ∧ ¬ X b) (fun b h3 h4 => ⟨h3.1, hw b h3.1 h4, h3.2⟩) RepP.pos) hs2 (fun b hb => hb.1)).weak (fun b hb _ => hb.2) RepP.pos
  by_cases hj : j < ss.length
  · have hjl : j < L.length := by omega
    rw [List.getElem_append_left hj, List.getElem_append_left hjl]
    exact main ((hss j hj hjl).ext hE)
  · have hjl : j = L.length := by simp at h2; omega
    subst hjl
    have e1 : (ss ++ [r])[L.length]'h1 = r := by
      rw [List.getElem_append_right (by omega)]; simp [hl]
    have e2 : (L ++ [l])[L.length]'h2 = l := by
      rw [List.getElem_append_right (by omega)]; simp
    rw [e1, e2]
    exact main hr

end
end Go.GX
end

section
/- Walk problems, the reference: matrices of pairs of labels. -/
namespace Go.Proofs.Ytnhidomgpbohiaa
open Go.GX Go.RowKit
set_option maxRecDepth 100000

theorem slt_rowsB : SlT Try.prog T.t_sl_sl_bool T.t_sl_bool 1 24 (.slice none 0 0) := ⟨by kernel_rfl, by kernel_rfl, rfl, by decide⟩
theorem slt_matsB : SlT Try.prog T.t_sl_sl_sl_bool T.t_sl_sl_bool 1 24 (.slice none 0 0) := ⟨by kernel_rfl, by kernel_rfl, rfl, by decide⟩

noncomputable def rowB (n : Nat) (P : Nat → Prop) : List Bool := by
  classical exact (List.range n).map fun b => decide (P b)
noncomputable def matB (n : Nat) (P : Nat → Nat → Prop) : List (List Bool) := (List.range n).map fun a => rowB n (P a)
theorem rowB_len (n : Nat) (P : Nat → Prop) : (rowB n P).length = n := by simp [rowB]
theorem matB_len (n : Nat) (P : Nat → Nat → Prop) : (matB n P).length = n := by simp [matB]
theorem rowB_get {n : Nat} {P : Nat → Prop} {a : Nat} (h : a < (rowB n P).length) : ((rowB n P)[a] = true) ↔ P a := by simp [rowB]
theorem matB_get {n : Nat} {P : Nat → Nat → Prop} {a : Nat} (h : a < (matB n P).length) : (matB n P)[a] = rowB n (P a) := by simp [matB]
theorem rowB_congr {n : Nat} {P Q : Nat → Prop} (h : ∀ a < n, P a ↔ Q a) : rowB n P = rowB n Q := by
  apply List.ext_getElem
  · rw [rowB_len, rowB_len]
  · intro a h1 h2
    rw [Bool.eq_iff_iff, rowB_get, rowB_get]
    exact h a (by rw [rowB_len] at h1; exact h1)
theorem matB_congr {n : Nat} {P Q : Nat → Nat → Prop} (h : ∀ a < n, ∀ b < n, P a b ↔ Q a b) : matB n P = matB n Q := by
  apply List.ext_getElem
  · rw [matB_len, matB_len]
  · intro a h1 h2
    rw [matB_get, matB_get]
    exact rowB_congr (h a (by rw [matB_len] at h1; exact h1))
theorem rowB_set {n : Nat} {P Q : Nat → Prop} {b : Nat} {v : Bool} (hv : v = true ↔ Q b) (hc : ∀ c < n, c ≠ b → (P c ↔ Q c)) : (rowB n P).set b v = rowB n Q := by
  apply List.ext_getElem
  · rw [List.length_set, rowB_len, rowB_len]
  · intro c h1 h2
    have hcn : c < n := by rw [rowB_len] at h2; exact h2
    rw [List.getElem_set, Bool.eq_iff_iff, rowB_get]
    by_cases he : b = c
    · subst he; rw [if_pos rfl]; exact hv
    · rw [if_neg he, rowB_get]; exact hc c hcn (Ne.symm he)
theorem matB_set {n : Nat} {P Q : Nat → Nat → Prop} {a b : Nat} (ha : a < n) {v : Bool} (hv : v = true ↔ Q a b) (hc : ∀ x < n, ∀ y < n, ¬ (x = a ∧ y = b) → (P x y ↔ Q x y)) : (matB n P).set a ((rowB n (P a)).set b v) = matB n Q := by
  apply List.ext_getElem
  · rw [List.length_set, matB_len, matB_len]
  · intro c h1 h2
    have hcn : c < n := by rw [matB_len] at h2; exact h2
    rw [List.getElem_set, matB_get h2]
    by_cases he : a = c
    · subst he; rw [if_pos rfl]; exact rowB_set hv fun y hy hne => hc a ha y hy fun h => hne h.2
    · rw [if_neg he, matB_get]; exact rowB_congr fun y hy => hc c hcn y hy fun h => he h.1.symm
theorem rowB_false (n : Nat) {P : Nat → Prop} (h : ∀ a < n, ¬ P a) : rowB n P = List.replicate n false := by
  apply List.ext_getElem
  · rw [rowB_len, List.length_replicate]
  · intro a h1 h2
    rw [List.getElem_replicate, ← Bool.not_eq_true, rowB_get]
    exact h a (by rw [rowB_len] at h1; exact h1)

abbrev OwnB (base : Nat) (w : World) (s : Sl) (L : List (List Bool)) (ss : List Sl) : Prop := RowsD w base T.t_bool T.t_sl_bool s L ss

theorem OwnB.repD {base : Nat} {w : World} {s : Sl} {L : List (List Bool)} {ss : List Sl} (h : OwnB base w s L ss) : SlR (fun b => base ≤ b) w s L := h.own2.repD fun _ _ _ _ => trivial

/-- One place of a matrix written. -/
theorem ST_mat {base : Nat} {w : World} {s : Sl} {n : Nat} {P Q : Nat → Nat → Prop} {ss : List Sl} {a b : Nat} {r : Sl} {p : Addr} {v : Bool} (h : OwnB base w s (matB n P) ss) (ha : a < n) (hb : b < n) (hr : ss[a]? = some r) (hp : Plc r b 1 p) (hv : v = true ↔ Q a b) (hc : ∀ x < n, ∀ y < n, ¬ (x = a ∧ y = b) → (P x y ↔ Q x y)) {K : World → Prop}
    (hk : ∀ w', OwnB base w' s (matB n Q) ss → Step w w' r.v.ownBlock → K w') : GX.ST p 0 [.bool v] w K := by
  have hal : a < (matB n P).length := by rw [matB_len]; exact ha
  have hO := h.row a r (matB n P)[a] hr (by simp [hal])
  rw [matB_get hal] at hO
  refine ST_own (α := Bool) hO (i := b) (by rw [rowB_len]; exact hb) hp v rfl fun w' hO' hs => ?_
  have h2 := h.chg (by decide) hr hO' hs
  rw [matB_set ha hv hc] at h2
  exact hk w' h2 hs

theorem waMay_ok {w : World} {s : Sl} {p : WPr} (h : RWk w s p) (hg : WGood p) :
    Calls Try.prog F.s_waMay #[.agg #[.int .i64 p.labels, s.v]] w (Ret [.at .sl] fun (r : Sl) w' => Ext w w' ∧ ∃ ss, OwnB w.heap.size w' r (matB p.labels.toNat (arcE p.arcs)) ss) := by
  refine C_s_waMay ?_
  unfold V_s_waMay
  refine NEW_intro fun pp w1 hp1 hs1 hE1 hb1 => ?_
  have hl := hg.lab
  obtain ⟨n, hn⟩ : ∃ n : Nat, p.labels = n := ⟨p.labels.toNat, by omega⟩
  have hnt : p.labels.toNat = n := by omega
  have hn12 : n ≤ 12 := by omega
  rw [hnt]
  have hz1 := hE1.size_le
  refine ⟨fun (out : Sl) (x : Int) w' => ∃ a : Nat, x = a ∧ a ≤ n ∧ Ext w1 w' ∧ ∃ ss, OwnB w1.heap.size w' out (List.replicate a (rowB n fun _ => False)) ss, fun _ x _ => n - x.toNat, ⟨0, rfl, by omega, Ext.refl _, [], RowsD.nil _ _ _ _⟩, ?_⟩
  rintro out _ w2 ⟨a, rfl, ha, hE2, ss, hM⟩
  intros
  have hb2 := hb1.ext hE2
  refine LD_bi0 hb2 (cond_dec (fun hlt => LD_bi0 hb2 ?_) (fun hge => ?_))
  · have han : a < n := by omega
    have hrun : ∀ {K : Sl → World → Prop}, RUN Try.prog (.at .sl) (Instr.makeSlice T.t_sl_bool (.int .i64 (n : Int)) (.int .i64 (n : Int))) w2 K → RUN Try.prog (.at .sl) (Instr.makeSlice T.t_sl_bool (.int .i64 p.labels) (.int .i64 p.labels)) w2 K := fun hk => by rw [hn]; exact hk
    refine hrun ?_
    refine RUN_make (α := Bool) slt_bool (d := false) rfl (by omega) (by unfold maxLen; omega) fun r w3 hE3 hO3 => ?_
    rw [← rowB_false n (P := fun _ => False) (fun _ _ h => h)] at hO3
    refine RUN_lit1 (α := Sl) slt_rowsB r rfl (by decide) fun y w4 hE4 hO4 => ?_
    have hz2 := hE2.size_le
    have hz3 := hE3.size_le
    have hz4 := hE4.size_le
    refine RUN_append_rowD slt_rowsB (by decide) (hM.ext (hE3.trans hE4)) (by omega) ((hO3.ext hE4).low hz2) (hM.fresh hO3 (Nat.le_refl _)) hO4 (by simp; omega) (by simp [maxLen]; omega) fun s' w5 hM5 hs5 => ?_
    rw [wrap_of (by omega) (by omega)]
    refine ⟨⟨a + 1, by omega, by omega, hs5.ext0 (hE2.trans (hE3.trans hE4)) fun b hb => (hM.own.blk b hb).1, ss ++ [r], ?_⟩, by simp only []; omega⟩
    rw [List.replicate_succ']
    exact hM5
  · have : a = n := by omega
    subst this
    refine LD_bs1 hb2 ?_
    have e0 : List.replicate a (rowB a fun _ => False) = matB a (arcE (p.arcs.take 0)) := by
      apply List.ext_getElem
      · simp [matB]
      · intro c h1 h2
        rw [List.getElem_replicate, matB_get h2]
        exact rowB_congr fun b _ => by simp [arcE]
    rw [e0] at hM
    rw [h.arcs.len]
    refine ⟨IN p.arcs.length fun i w' => Ext w1 w' ∧ OwnB w1.heap.size w' out (matB a (arcE (p.arcs.take i))) ss, MN p.arcs.length, IN_zero ⟨hE2, hM⟩, ?_⟩
    rintro _ w6 ⟨i, rfl, hi, hE6, hM6⟩
    intros
    refine cond_dec (fun hlt => ?_) (fun hge2 => ?_)
    · have hi' : i < p.arcs.length := by omega
      refine (h.arcs.ext (hE1.trans hE6)).ixL hi' fun q row hrow hc => LD_sl hc ?_
      intro w7 hE7 _
      obtain ⟨x, y, he, hx, hy⟩ := hg.arc (List.getElem_mem hi')
      rw [hnt] at hx hy
      rw [he] at hrow
      have hrow7 := hrow.any.ext hE7
      have hM7 := hM6.ext hE7
      have hxl : x < (matB a (arcE (p.arcs.take i))).length := by rw [matB_len]; exact hx
      refine ⟨fun _ => False, ?_⟩
      refine hrow7.ixI (i := 0) (by simp) fun q0 _ hc0 => ⟨not_false, LD_int hc0 ?_⟩
      refine hM7.ix (i := x) hxl fun q1 r1 hr1 hO1 hc1 _ => ⟨not_false, LD_sl hc1 ⟨Chg.refl _ _, ?_⟩⟩
      refine hrow7.ixI (i := 1) (by simp) fun q2 _ hc2 => ⟨Chg.refl _ _, LD_int hc2 ⟨Chg.refl _ _, ?_⟩⟩
      rw [matB_get hxl] at hO1
      refine IX_own hO1 (i := y) (by rw [rowB_len]; exact hy) rfl fun q3 hq3 => ?_
      refine ST_mat (Q := arcE (p.arcs.take (i + 1))) (v := true) hM7 hx hy hr1 hq3 ?_ ?_ fun w8 hM8 hs8 => ?_
      · unfold arcE
        rw [List.take_succ_eq_append_getElem hi', he]
        simp
      · intro u hu v hv hne
        unfold arcE
        rw [List.take_succ_eq_append_getElem hi', he, List.mem_append, List.mem_singleton]
        simp only [List.cons.injEq, and_true, Int.natCast_inj]
        exact ⟨.inl, fun h => h.resolve_right hne⟩
      · exact IN_next h.arcs.le hi' ⟨hs8.ext0 (hE6.trans hE7) fun k hk => (hO1.blk k hk).1, hM8⟩
    · have : i = p.arcs.length := by omega
      subst this
      rw [List.take_length] at hM6
      exact ⟨hE1.trans hE6, ss, hM6.low hz1⟩

/-- Relations composed. -/
def comp2 (n : Nat) (P Q : Nat → Nat → Prop) (x z : Nat) : Prop := ∃ y, y < n ∧ P x y ∧ Q y z

theorem waTimes_ok {w : World} {s t : Sl} {n : Nat} {P Q : Nat → Nat → Prop} (hA : R w s (matB n P)) (hB : R w t (matB n Q)) (hn : n ≤ 12) :
    Calls Try.prog F.s_waTimes #[s.v, t.v] w (Ret [.at .sl] fun (r : Sl) w' => Ext w w' ∧ SlR (fun b => w.heap.size ≤ b) w' r (matB n (comp2 n P Q))) := by
  refine C_s_waTimes ?_
  unfold V_s_waTimes
  rw [hA.len, matB_len]
  refine ⟨IN2 n fun i (out : Sl) w' => Ext w w' ∧ ∃ ss, OwnB w.heap.size w' out ((matB n (comp2 n P Q)).take i) ss, MN2 n, IN2_zero ⟨Ext.refl _, [], RowsD.nil _ _ _ _⟩, ?_⟩
  rintro out _ w1 ⟨i, rfl, hi, hE1, ss, hM⟩
  intros
  refine cond_dec (fun hlt => ?_) (fun hge => ?_)
  · have hi' : i < n := by omega
    refine (hA.ext hE1).ixL (i := i) (by rw [matB_len]; exact hi') fun q row hrow hc => LD_sl hc ?_
    rw [matB_get (by rw [matB_len]; exact hi')] at hrow
    rw [hrow.len, rowB_len]
    refine RUN_make (α := Bool) slt_bool (d := false) rfl (by omega) (by unfold maxLen; omega) fun r w2 hE2 hO2 => ?_
    rw [← rowB_false n (P := fun z => ∃ y, y < 0 ∧ P i y ∧ Q y z) (fun _ _ ⟨_, h, _⟩ => by omega)] at hO2
    have hz1 := hE1.size_le
    have hz2 := hE2.size_le
    have hrl : r.len = n := by have := hO2.1; rw [rowB_len] at this; exact this
    have hob : ∀ k, oB r k → w1.heap.size ≤ k := fun k hk => (hO2.blk k hk).1
    rw [hrl]
    refine ⟨IN n fun k w' => Chg w2 w' (oB r) ∧ OwnL w' w1.heap.size T.t_bool r (rowB n fun z => ∃ y, y < k ∧ P i y ∧ Q y z), MN n, IN_zero ⟨Chg.refl _ _, hO2⟩, ?_⟩
    rintro _ w3 ⟨k, rfl, hk, hC3, hO3⟩
    intros
    refine cond_dec (fun hlt2 => ?_) (fun hge2 => ?_)
    · have hk' : k < n := by omega
      have hE03 : Ext w1 w3 := hC3.ext0 hE2 hob
      refine (hrow.any.ext hE03).ixB (i := k) (by rw [rowB_len]; exact hk') fun q2 hc2 => LD_bool hc2 ?_
      have hrk : (rowB n (P i))[k]'(by rw [rowB_len]; exact hk') = true ↔ P i k := rowB_get _
      generalize (rowB n (P i))[k]'(by rw [rowB_len]; exact hk') = vk at hrk
      refine ⟨IN n fun j w' => Chg w3 w' (oB r) ∧ OwnL w' w1.heap.size T.t_bool r (rowB n fun z => ∃ y, (y < k ∨ (y = k ∧ z < j)) ∧ P i y ∧ Q y z), MN n, IN_zero ⟨Chg.refl _ _, ?_⟩, ?_⟩
      · have e : (rowB n fun z => ∃ y, (y < k ∨ (y = k ∧ z < 0)) ∧ P i y ∧ Q y z) = rowB n fun z => ∃ y, y < k ∧ P i y ∧ Q y z := rowB_congr fun z _ => ⟨fun ⟨y, h, h2⟩ => ⟨y, by omega, h2⟩, fun ⟨y, h, h2⟩ => ⟨y, .inl h, h2⟩⟩
        rw [e]; exact hO3
      rintro _ w4 ⟨j, rfl, hj, hC4, hO4⟩
      intros
      refine cond_dec (fun hlt3 => ?_) (fun hge3 => ?_)
      · have hj' : j < n := by omega
        have hE04 : Ext w1 w4 := hC4.ext0 hE03 hob
        have hjl : j < (rowB n fun z => ∃ y, (y < k ∨ (y = k ∧ z < j)) ∧ P i y ∧ Q y z).length := by rw [rowB_len]; exact hj'
        have fin : ∀ {v : Bool} {q3 : Addr}, Plc r j 1 q3 → (v = true ↔ ∃ y, (y < k ∨ (y = k ∧ j < j + 1)) ∧ P i y ∧ Q y j) → GX.ST q3 0 [.bool v] w4 fun w5 => IN n (fun j w' => Chg w3 w' (oB r) ∧ OwnL w' w1.heap.size T.t_bool r (rowB n fun z => ∃ y, (y < k ∨ (y = k ∧ z < j)) ∧ P i y ∧ Q y z)) (IntKind.i64.wrap ((j : Int) + 1)) w5 ∧ MN n (IntKind.i64.wrap ((j : Int) + 1)) w5 < MN n (j : Int) w4 := fun {v q3} hq3 hv => by
          refine ST_own (α := Bool) hO4 hjl hq3 v rfl fun w5 hO5 hs5 => IN_next (by omega) hj' ⟨hC4.trans (.of_step hs5 fun k hk => hk), ?_⟩
          rw [rowB_set (Q := fun z => ∃ y, (y < k ∨ (y = k ∧ z < j + 1)) ∧ P i y ∧ Q y z) hv (fun c hc hne => ⟨fun ⟨y, h, h2⟩ => ⟨y, by omega, h2⟩, fun ⟨y, h, h2⟩ => ⟨y, by omega, h2⟩⟩)] at hO5
          exact hO5
        refine (hO4.rep fun _ _ => trivial).any.ixB hjl fun q3 hc3 => LD_bool hc3 ?_
        have hold := rowB_get hjl
        generalize (rowB n fun z => ∃ y, (y < k ∨ (y = k ∧ z < j)) ∧ P i y ∧ Q y z)[j] = old at hold
        refine cond_b (fun ht => IX_own hO4 hjl rfl fun q4 hq4 => fin hq4 ⟨fun _ => ?_, fun _ => rfl⟩) (fun hf => ?_)
        · obtain ⟨y, h1, h2⟩ := hold.1 ht
          exact ⟨y, by omega, h2⟩
        · have hno : ¬ ∃ y, y < k ∧ P i y ∧ Q y j := fun ⟨y, h1, h2⟩ => by rw [hold.2 ⟨y, .inl h1, h2⟩] at hf; cases hf
          refine cond_b (fun htk => ?_) (fun hfk => IX_own hO4 hjl rfl fun q4 hq4 => fin hq4 ⟨(fun hh => by cases hh), fun ⟨y, h1, h2, h3⟩ => ?_⟩)
          · refine (hB.ext (hE1.trans hE04)).ixL (i := k) (by rw [matB_len]; exact hk') fun q5 row2 hrow2 hc5 => LD_sl hc5 ?_
            rw [matB_get (by rw [matB_len]; exact hk')] at hrow2
            have hjl2 : j < (rowB n (Q k)).length := by rw [rowB_len]; exact hj'
            refine hrow2.any.ixB hjl2 fun q6 hc6 => LD_bool hc6 ?_
            refine IX_own hO4 hjl rfl fun q4 hq4 => fin hq4 ?_
            rw [rowB_get hjl2]
            constructor
            · intro hq
              exact ⟨k, .inr ⟨rfl, by omega⟩, hrk.1 htk, hq⟩
            · rintro ⟨y, h1, h2, h3⟩
              rcases h1 with h1 | ⟨rfl, _⟩
              · exact absurd ⟨y, h1, h2, h3⟩ hno
              · exact h3
          · exfalso
            rcases h1 with h1 | ⟨rfl, _⟩
            · exact hno ⟨y, h1, h2, h3⟩
            · rw [hrk.2 h2] at hfk; cases hfk
      · have : j = n := by omega
        subst this
        have e : (rowB j fun z => ∃ y, (y < k ∨ (y = k ∧ z < j)) ∧ P i y ∧ Q y z) = rowB j fun z => ∃ y, y < k + 1 ∧ P i y ∧ Q y z := rowB_congr fun z hz => ⟨fun ⟨y, h, h2⟩ => ⟨y, by omega, h2⟩, fun ⟨y, h, h2⟩ => ⟨y, by omega, h2⟩⟩
        rw [e] at hO4
        exact IN_next (by omega) hk' ⟨hC3.trans hC4, hO4⟩
    · have : k = n := by omega
      subst this
      have hE03 : Ext w1 w3 := hC3.ext0 hE2 hob
      have hz3 := hC3.size
      refine RUN_lit1 (α := Sl) slt_rowsB r rfl (by decide) fun y w8 hE8 hO8 => ?_
      have hz8 := hE8.size_le
      refine RUN_append_rowD slt_rowsB (by decide) (hM.ext (hE03.trans hE8)) (by omega) ((hO3.ext hE8).low hz1) (hM.fresh hO3 (Nat.le_refl _)) hO8 (by simp [matB_len]; omega) (by simp [maxLen, matB_len]; omega) fun s' w9 hM9 hs9 => ?_
      refine IN2_next (by omega) hi' ⟨hs9.ext0 (hE1.trans (hE03.trans hE8)) fun b hb => (hM.own.blk b hb).1, ss ++ [r], ?_⟩
      have hil : i < (matB k (comp2 k P Q)).length := by rw [matB_len]; exact hi'
      rw [List.take_succ_eq_append_getElem hil, matB_get hil]
      exact hM9
  · have : i = n := by omega
    subst this
    rw [List.take_of_length_le (by rw [matB_len]; exact Nat.le_refl _)] at hM
    exact ⟨hE1, hM.repD⟩

end Go.Proofs.Ytnhidomgpbohiaa
end

section
/- Walk problems, the reference: powers of the relation, what walks of some length reach. -/
namespace Go.Proofs.Ytnhidomgpbohiaa
open Go.GX Go.RowKit
set_option maxRecDepth 100000

theorem rwk_nil {w : World} {x : Int} (hx : I64 x) : RWk w ⟨none, 0, 0⟩ ⟨x, []⟩ := ⟨hx, (RowsD.nil (α := Int) w 0 T.t_int T.t_sl_int).rep (by simp)⟩
theorem wgood_nil {x : Int} (hx : 1 ≤ x ∧ x ≤ 12) : WGood ⟨x, []⟩ := ⟨hx, ⟨by simp, by simp, fun i h => by simp at h⟩⟩

noncomputable def powL (E : Nat → Nat → Prop) (n m : Nat) : List (List (List Bool)) := (List.range m).map fun k => matB n (Wk E k)
theorem powL_len (E : Nat → Nat → Prop) (n m : Nat) : (powL E n m).length = m := by simp [powL]
theorem powL_get {E : Nat → Nat → Prop} {n m k : Nat} (h : k < (powL E n m).length) : (powL E n m)[k] = matB n (Wk E k) := by simp [powL]
theorem powL_snoc (E : Nat → Nat → Prop) (n m : Nat) : powL E n (m + 1) = powL E n m ++ [matB n (Wk E m)] := by
  unfold powL
  rw [List.range_succ, List.map_append, List.map_singleton]

theorem comp2_wk {E : Nat → Nat → Prop} {n k : Nat} (hE : ∀ x y, E x y → x < n ∧ y < n) : matB n (comp2 n (Wk E k) E) = matB n (Wk E (k + 1)) := matB_congr fun _ _ b _ => ⟨fun ⟨y, _, h1, h2⟩ => ⟨y, h1, h2⟩, fun ⟨y, h1, h2⟩ => ⟨y, (hE y b h2).1, h1, h2⟩⟩

theorem waMay_nil {w : World} {x : Int} (h : I64 x) (hx : 1 ≤ x ∧ x ≤ 12) :
    Calls Try.prog F.s_waMay #[.agg #[.int .i64 x, .slice none 0 0]] w (Ret [.at .sl] fun (r : Sl) w' => Ext w w' ∧ ∃ ss, OwnB w.heap.size w' r (matB x.toNat fun _ _ => False) ss) := by
  have e : matB x.toNat (arcE ([] : List (List Int))) = matB x.toNat fun _ _ => False := matB_congr fun a _ b _ => by simp [arcE]
  have h0 := waMay_ok (w := w) (s := ⟨none, 0, 0⟩) (p := ⟨x, []⟩) (rwk_nil h) (wgood_nil hx)
  rw [e] at h0
  exact h0

theorem waPowers_ok {w : World} {s : Sl} {p : WPr} {m : Nat} (h : RWk w s p) (hg : WGood p) (hm : m ≤ 1000) :
    Calls Try.prog F.s_waPowers #[.agg #[.int .i64 p.labels, s.v], .int .i64 m] w (Ret [.at .sl] fun (r : Sl) w' => Ext w w' ∧ SlR (fun b => w.heap.size ≤ b) w' r (powL (arcE p.arcs) p.labels.toNat (m + 1))) := by
  refine C_s_waPowers ?_
  unfold V_s_waPowers
  refine NEW_intro fun pp w1 hp1 hs1 hE1 hb1 => LD_bi0 hb1 ?_
  have hl := hg.lab
  have hz1 := hE1.size_le
  refine call (waMay_nil h.lab hl) ?_
  rintro r w2 ⟨hE2, ss, hM2⟩
  have hrel : ∀ x y, arcE p.arcs x y → x < p.labels.toNat ∧ y < p.labels.toNat := fun x y hxy => hg.rel hxy
  have hmay := fun {w : World} (h : RWk w s p) => waMay_ok h hg
  generalize arcE p.arcs = E at *
  generalize hnn : p.labels.toNat = n at *
  have hn12 : n ≤ 12 := by omega
  have hM2' : OwnB w1.heap.size w2 r (matB n fun x y => x = y ∧ x < 0) ss := by
    have e : (matB n fun _ _ => False) = matB n fun x y => x = y ∧ x < 0 := matB_congr fun a _ b _ => ⟨fun hh => hh.elim, fun hh => by omega⟩
    rw [e] at hM2
    exact hM2
  have hz2 := hE2.size_le
  have hrl : r.len = n := by have := hM2'.own.1; rw [hM2'.len, matB_len] at this; exact this
  rw [hrl]
  refine ⟨IN n fun i w' => Ext w1 w' ∧ OwnB w1.heap.size w' r (matB n fun x y => x = y ∧ x < i) ss, MN n, IN_zero ⟨hE2, hM2'⟩, ?_⟩
  rintro _ w3 ⟨i, rfl, hi, hE3, hM3⟩
  intros
  refine cond_dec (fun hlt => ?_) (fun hge => ?_)
  · have hi' : i < n := by omega
    have hil : i < (matB n fun x y => x = y ∧ x < i).length := by rw [matB_len]; exact hi'
    refine hM3.ix hil fun q r1 hr1 hO1 hc1 _ => LD_sl hc1 ?_
    rw [matB_get hil] at hO1
    refine IX_own hO1 (i := i) (by rw [rowB_len]; exact hi') rfl fun q3 hq3 => ?_
    refine ST_mat (Q := fun x y => x = y ∧ x < i + 1) (v := true) hM3 hi' hi' hr1 hq3 ⟨fun _ => ⟨rfl, by omega⟩, fun _ => rfl⟩ (fun x hx y hy hne => ⟨fun hh => ⟨hh.1, by omega⟩, fun hh => ⟨hh.1, by
      by_cases he : x = i
      · exact absurd ⟨he, hh.1 ▸ he⟩ hne
      · omega⟩⟩) fun w4 hM4 hs4 => ?_
    exact IN_next (by omega) hi' ⟨hs4.ext0 hE3 fun k hk => (hO1.blk k hk).1, hM4⟩
  · have : i = n := by omega
    subst this
    have hM3' : OwnB w1.heap.size w3 r (matB i (Wk E 0)) ss := by
      have e : (matB i fun x y => x = y ∧ x < i) = matB i (Wk E 0) := matB_congr fun a ha b _ => ⟨fun hh => hh.1, fun hh => ⟨hh, ha⟩⟩
      rw [e] at hM3; exact hM3
    refine RUN_lit1 (α := Sl) slt_matsB r rfl (by decide) fun y w5 hE5 hO5 => ?_
    have hE15 := hE3.trans hE5
    have hz3 := hE3.size_le
    refine LD_is (hb1.ext hE15) ?_
    refine call (hmay (h.ext (hE1.trans hE15))) ?_
    rintro t w6 ⟨hE6, ss6, hM6⟩
    have hE16 := hE15.trans hE6
    have hz5 := hE5.size_le
    have hz6 := hE6.size_le
    have hX6 : RowsX (fun b => b < w1.heap.size) w1.heap.size T.t_sl_sl_bool w6 y (powL E i 1) := by
      refine ⟨[r], (hO5.ext hE6).low hz3, rfl, fun j h1 h2 => ?_⟩
      have hj : j = 0 := by simp at h1; omega
      subst hj
      have e : (powL E i 1)[0] = matB i (Wk E 0) := powL_get h2
      rw [e]
      exact ((hM3'.repD.weak (fun b hb hlt => ⟨fun he => by have := (hO5.blk b he).1; omega, fun hh => by have h3 : w1.heap.size ≤ b := hb; have h4 : b < w1.heap.size := hh; omega⟩) RepP.pos).ext hE5).ext hE6
    have hY : ∀ b, oB y b → w3.heap.size ≤ b ∧ b < w5.heap.size := fun b hb => hO5.blk b hb
    refine ⟨fun (out : Sl) w' => ∃ k : Nat, k ≤ m ∧ Chg w6 w' (fun b => oB y b ∨ w6.heap.size ≤ b) ∧ (∀ b, oB out b → oB y b ∨ w6.heap.size ≤ b) ∧ RowsX (fun b => b < w1.heap.size) w1.heap.size T.t_sl_sl_bool w' out (powL E i (k + 1)), fun out _ => m + 1 - out.len, ⟨0, by omega, Chg.refl _ _, fun b hb => .inl hb, hX6⟩, ?_⟩
    rintro out w7 ⟨k, hk, hC7, hob7, hX7⟩
    intros
    have hlen : out.len = k + 1 := by have := hX7.rep.len; rw [powL_len] at this; exact this
    have hE17 : Ext w1 w7 := hC7.ext0 hE16 fun b hb => by
      rcases hb with hb | hb
      · have := (hY b hb).1; omega
      · omega
    have hz7 := hC7.size
    refine cond_dec (fun hlt => ?_) (fun hge2 => ?_)
    · have hk' : k < m := by rw [hlen] at hlt; omega
      have e1 : IntKind.i64.wrap ((out.len : Int) - 1) = (k : Int) := by rw [hlen, wrap_of (by omega) (by omega)]; omega
      rw [e1]
      have hRt : R w7 t (matB i E) := (hM6.repD.chg hC7 fun b hb hlt hD => by
        have h1 : w5.heap.size ≤ b := hb
        rcases hD with hD | hD
        · have := (hY b hD).2; omega
        · omega).any
      have hkl : k < (powL E i (k + 1)).length := by rw [powL_len]; omega
      refine hX7.rep.ixL hkl fun q mrow hmrow hc => LD_sl hc ?_
      rw [powL_get hkl] at hmrow
      refine call (waTimes_ok hmrow.any hRt hn12) ?_
      rintro u w8 ⟨hE8, hR8⟩
      rw [comp2_wk hrel] at hR8
      refine RUN_lit1 (α := Sl) slt_matsB u rfl (by decide) fun y9 w9 hE9 hO9 => ?_
      have hz8 := hE8.size_le
      have hz9 := hE9.size_le
      have hE79 := hE8.trans hE9
      refine RUN_append_X slt_matsB hX7 (by omega) hE79 ((hR8.weak (fun b hb _ => ⟨fun he => by have h1 := (hX7.blk he).2; have h2 : w7.heap.size ≤ b := hb; omega, fun hh => by have h2 : w7.heap.size ≤ b := hb; have h3 : b < w1.heap.size := hh; omega⟩) RepP.pos).ext hE9) hO9 (by rw [powL_len]; omega) (by rw [powL_len]; unfold maxLen; omega) fun s' w10 hX10 hs10 hN10 => ?_
      rw [← powL_snoc] at hX10
      have hlen' : s'.len = k + 1 + 1 := by have := hX10.rep.len; rw [powL_len] at this; exact this
      refine ⟨⟨k + 1, by omega, (hC7.trans (.of_ext hE79)).trans (.of_step hs10 hob7), fun b hb => ?_, hX10⟩, by simp only [hlen, hlen']; omega⟩
      rcases hN10 with hN | hN
      · exact hob7 b (show out.v.ownBlock = some b from hN ▸ hb)
      · have := hN b hb; exact .inr (by omega)
    · have : k = m := by rw [hlen] at hge2; omega
      subst this
      obtain ⟨ss7, hO7, hl7, hr7⟩ := hX7.ex
      refine ⟨hE1.trans hE17, ?_⟩
      exact OwnL.rows (D := fun b => w.heap.size ≤ b) hO7 hl7 (fun j h1 h2 => (hr7 j h1 h2).weak (fun b hb _ => by have := hb.2; omega) RepP.pos) (fun b hb => by omega)

/-- What is known of walks when some places are done. -/
def rchS (E : Nat → Nat → Prop) (k a b : Nat) (x y : Nat) : Prop := ∃ j, 0 < j ∧ Wk E j x y ∧ (j < k ∨ (j = k ∧ (x < a ∨ (x = a ∧ y < b))))
theorem rchS_row (E : Nat → Nat → Prop) (k a n : Nat) : matB n (rchS E k a n) = matB n (rchS E k (a + 1) 0) := matB_congr fun x hx y hy => by
  unfold rchS
  exact ⟨fun ⟨j, h1, h2, h3⟩ => ⟨j, h1, h2, by omega⟩, fun ⟨j, h1, h2, h3⟩ => ⟨j, h1, h2, by omega⟩⟩
theorem rchS_mat (E : Nat → Nat → Prop) (k n : Nat) : matB n (rchS E k n 0) = matB n (rchS E (k + 1) 0 0) := matB_congr fun x hx y hy => by
  unfold rchS
  exact ⟨fun ⟨j, h1, h2, h3⟩ => ⟨j, h1, h2, by omega⟩, fun ⟨j, h1, h2, h3⟩ => ⟨j, h1, h2, by omega⟩⟩

def reachE (E : Nat → Nat → Prop) (x y : Nat) : Prop := ∃ j, 0 < j ∧ Wk E j x y

theorem waReach_ok {w : World} {s : Sl} {p : WPr} (h : RWk w s p) (hg : WGood p) :
    Calls Try.prog F.s_waReach #[.agg #[.int .i64 p.labels, s.v]] w (Ret [.at .sl] fun (r : Sl) w' => Ext w w' ∧ R w' r (matB p.labels.toNat (reachE (arcE p.arcs)))) := by
  refine C_s_waReach ?_
  unfold V_s_waReach
  refine NEW_intro fun pp w1 hp1 hs1 hE1 hb1 => LD_bi0 hb1 ?_
  have hl := hg.lab
  have hz1 := hE1.size_le
  refine call (waMay_nil h.lab hl) ?_
  rintro r w2 ⟨hE2, ss, hM2⟩
  have hE12 := hE1.trans hE2
  have hb2 := hb1.ext hE2
  refine LD_is hb2 (LD_bi0 hb2 ?_)
  have hlabn : p.labels = ((p.labels.toNat : Nat) : Int) := by omega
  have hpow := waPowers_ok (m := p.labels.toNat) (h.ext hE12) hg (by omega)
  rw [← hlabn] at hpow
  refine call hpow ?_
  rintro t w3 ⟨hE3, hR3⟩
  have hrel : ∀ x y, arcE p.arcs x y → y < p.labels.toNat := fun x y hxy => (hg.rel hxy).2
  clear hpow hlabn
  generalize arcE p.arcs = E at *
  generalize hnn : p.labels.toNat = n at *
  have hn12 : n ≤ 12 := by omega
  have hz2 := hE2.size_le
  have hz3 := hE3.size_le
  have hrowb : ∀ (a : Nat) (q : Sl), ss[a]? = some q → ∀ k, q.v.ownBlock = some k → w1.heap.size ≤ k ∧ k < w2.heap.size := fun a q hq k hk => by
    have hal : a < (matB n fun _ _ => False).length := by rw [← hM2.len]; exact (List.getElem?_eq_some_iff.1 hq).1
    exact (hM2.row a q (matB n fun _ _ => False)[a] hq (by simp [hal])).blk k hk
  have hE03 := hE12.trans hE3
  rw [hR3.len, powL_len]
  have e0 : (matB n fun _ _ => False) = matB n (rchS E 0 0 0) := matB_congr fun x _ y _ => ⟨fun hh => hh.elim, fun ⟨j, _, _, h3⟩ => by omega⟩
  rw [e0] at hM2
  refine ⟨IN (n + 1) fun k w' => Chg w3 w' (fun b => w1.heap.size ≤ b ∧ b < w2.heap.size) ∧ OwnB w1.heap.size w' r (matB n (rchS E k 0 0)) ss, MN (n + 1), IN_zero ⟨Chg.refl _ _, hM2.ext hE3⟩, ?_⟩
  rintro _ w4 ⟨k, rfl, hk, hC4, hM4⟩
  intros
  refine cond_dec (fun hlt => ?_) (fun hge => ?_)
  · have hk' : k < n + 1 := by omega
    have hkl : k < (powL E n (n + 1)).length := by rw [powL_len]; exact hk'
    have keepD : ∀ {α : Type} [RepP α] {u : Sl} {l : List α} {wa wb : World}, SlR (fun b => w2.heap.size ≤ b) wa u l → Chg wa wb (fun b => w1.heap.size ≤ b ∧ b < w2.heap.size) → SlR (fun b => w2.heap.size ≤ b) wb u l := fun hR hC => hR.chg hC fun b hb _ hD => by have h1 : w2.heap.size ≤ b := hb; omega
    refine (keepD hR3 hC4).ixL hkl fun q mrow hmrow hc => LD_sl hc ?_
    rw [powL_get hkl] at hmrow
    rw [hmrow.len, matB_len]
    refine ⟨IN n fun a w' => Chg w4 w' (fun b => w1.heap.size ≤ b ∧ b < w2.heap.size) ∧ OwnB w1.heap.size w' r (matB n (rchS E k a 0)) ss, MN n, IN_zero ⟨Chg.refl _ _, hM4⟩, ?_⟩
    rintro _ w5 ⟨a, rfl, ha, hC5, hM5⟩
    intros
    refine cond_dec (fun hlt2 => ?_) (fun hge2 => ?_)
    · have ha' : a < n := by omega
      have hal : a < (matB n (Wk E k)).length := by rw [matB_len]; exact ha'
      refine (keepD hmrow hC5).ixL hal fun q2 row hrow hc2 => LD_sl hc2 ?_
      rw [matB_get hal] at hrow
      rw [hrow.len, rowB_len]
      refine ⟨IN n fun b w' => Chg w5 w' (fun b => w1.heap.size ≤ b ∧ b < w2.heap.size) ∧ OwnB w1.heap.size w' r (matB n (rchS E k a b)) ss, MN n, IN_zero ⟨Chg.refl _ _, hM5⟩, ?_⟩
      rintro _ w6 ⟨b, rfl, hb, hC6, hM6⟩
      intros
      refine cond_dec (fun hlt3 => ?_) (fun hge3 => ?_)
      · have hb' : b < n := by omega
        have hbl : b < (rowB n (Wk E k a)).length := by rw [rowB_len]; exact hb'
        refine (keepD hrow hC6).ixB hbl fun q3 hc3 => LD_bool hc3 ?_
        have hx37 := rowB_get hbl
        generalize (rowB n (Wk E k a))[b] = x37 at hx37
        intro w7 hE7 _
        have hM7 := hM6.ext hE7
        have hal2 : a < (matB n (rchS E k a b)).length := by rw [matB_len]; exact ha'
        have hnD : ∀ {q : Addr}, r.v.ownBlock = some q.block → ¬ ∃ (i : Nat) (u : Sl), ss[i]? = some u ∧ u.v.ownBlock = some q.block := fun hq ⟨i, u, h1, h2⟩ => hM7.block_ne (by decide) h1 h2 hq
        refine ⟨fun c => ∃ (i : Nat) (u : Sl), ss[i]? = some u ∧ u.v.ownBlock = some c, ?_⟩
        refine hM7.ix hal2 fun q4 r1 hr1 hO1 hc4 hq4 => ⟨hnD hq4, LD_sl hc4 ?_⟩
        refine hM7.ix hal2 fun q5 r2 hr2 hO2 hc5 hq5 => ⟨hnD hq5, LD_sl hc5 ⟨Chg.refl _ _, ?_⟩⟩
        rw [hr1] at hr2; cases hr2
        rw [matB_get hal2] at hO1
        have hbl2 : b < (rowB n (rchS E k a b a)).length := by rw [rowB_len]; exact hb'
        refine (hO1.rep fun _ _ => trivial).any.ixB hbl2 fun q6 hc6 => ⟨Chg.refl _ _, LD_bool hc6 ⟨Chg.refl _ _, Chg.refl _ _, ?_⟩⟩
        have hx49 := rowB_get hbl2
        generalize (rowB n (rchS E k a b a))[b] = x49 at hx49
        have hold : rchS E k a b a b ↔ ∃ j, 0 < j ∧ Wk E j a b ∧ j < k := ⟨fun ⟨j, h1, h2, h3⟩ => ⟨j, h1, h2, by omega⟩, fun ⟨j, h1, h2, h3⟩ => ⟨j, h1, h2, .inl h3⟩⟩
        have hnew : rchS E k a (b + 1) a b ↔ ∃ j, 0 < j ∧ Wk E j a b ∧ j ≤ k := ⟨fun ⟨j, h1, h2, h3⟩ => ⟨j, h1, h2, by omega⟩, fun ⟨j, h1, h2, h3⟩ => ⟨j, h1, h2, by omega⟩⟩
        have fin : ∀ {v : Bool} {q7 : Addr}, Plc r1 b 1 q7 → (v = true ↔ rchS E k a (b + 1) a b) → GX.ST q7 0 [.bool v] w7 fun w8 => Chg w7 w8 (fun c => ∃ (i : Nat) (u : Sl), ss[i]? = some u ∧ u.v.ownBlock = some c) ∧ IN n (fun b w' => Chg w5 w' (fun b => w1.heap.size ≤ b ∧ b < w2.heap.size) ∧ OwnB w1.heap.size w' r (matB n (rchS E k a b)) ss) (IntKind.i64.wrap ((b : Int) + 1)) w8 ∧ MN n (IntKind.i64.wrap ((b : Int) + 1)) w8 < MN n (b : Int) w6 := fun {v q7} hq7 hv => by
          refine ST_mat (Q := rchS E k a (b + 1)) hM7 ha' hb' hr1 hq7 hv (fun x hx y hy hne => ?_) fun w8 hM8 hs8 => ?_
          · unfold rchS
            exact ⟨fun ⟨j, h1, h2, h3⟩ => ⟨j, h1, h2, by omega⟩, fun ⟨j, h1, h2, h3⟩ => ⟨j, h1, h2, by
              by_cases he : x = a
              · have : y ≠ b := fun hy => hne ⟨he, hy⟩
                omega
              · omega⟩⟩
          · have hC8 : Chg w7 w8 (fun b => w1.heap.size ≤ b ∧ b < w2.heap.size) := .of_step hs8 fun k hk => hrowb a r1 hr1 k hk
            exact ⟨.of_step hs8 fun k hk => ⟨a, r1, hr1, hk⟩, IN_next (by omega) hb' ⟨(hC6.trans (.of_ext hE7)).trans hC8, hM8⟩⟩
        have cr := fun D => Chg.refl w7 D
        refine cond_b (fun ht => ⟨cr _, IX_own hO1 hbl2 rfl fun q7 hq7 => ⟨cr _, fin hq7 ⟨fun _ => ?_, fun _ => rfl⟩⟩⟩) (fun hf => ⟨cr _, cr _, ?_⟩)
        · obtain ⟨j, h1, h2, h3⟩ := hold.1 (hx49.1 ht)
          exact hnew.2 ⟨j, h1, h2, by omega⟩
        · have hno : ¬ ∃ j, 0 < j ∧ Wk E j a b ∧ j < k := fun hh => by rw [hx49.2 (hold.2 hh)] at hf; cases hf
          refine cond_b (fun ht2 => ⟨cr _, cr _, cr _, cr _, IX_own hO1 hbl2 rfl fun q7 hq7 => ⟨cr _, fin hq7 ?_⟩⟩) (fun hf2 => ⟨cr _, cr _, IX_own hO1 hbl2 rfl fun q7 hq7 => ⟨cr _, fin hq7 ⟨(fun hh => by cases hh), fun hh => ?_⟩⟩⟩)
          · rw [hnew, decide_eq_true_eq]
            constructor
            · intro hk0
              exact ⟨k, by omega, hx37.1 ht2, by omega⟩
            · rintro ⟨j, h1, h2, h3⟩
              omega
          · obtain ⟨j, h1, h2, h3⟩ := hnew.1 hh
            by_cases hjk : j = k
            · subst hjk
              rw [hx37.2 h2] at hf2; cases hf2
            · exact absurd ⟨j, h1, h2, by omega⟩ hno
      · have : b = n := by omega
        subst this
        rw [rchS_row] at hM6
        exact IN_next (by omega) ha' ⟨hC5.trans hC6, hM6⟩
    · have : a = n := by omega
      subst this
      rw [rchS_mat] at hM5
      exact IN_next (by omega) hk' ⟨hC4.trans hC5, hM5⟩
  · have : k = n + 1 := by omega
    subst this
    refine ⟨hC4.ext0 hE03 fun b hb => by have := hb.1; omega, ?_⟩
    have e1 : matB n (rchS E (n + 1) 0 0) = matB n (reachE E) := matB_congr fun x _ y _ => ⟨fun ⟨j, h1, h2, _⟩ => ⟨j, h1, h2⟩, fun ⟨j, h1, h2⟩ => by
      obtain ⟨j', h3, h4, h5⟩ := h2.short hrel h1
      exact ⟨j', h3, h5, by omega⟩⟩
    rw [e1] at hM4
    exact hM4.repD.any

end Go.Proofs.Ytnhidomgpbohiaa
end

section
/- Walk problems, the program: closure, distances, the period of a component. -/
namespace Go.Proofs.Ytnhidomgpbohiaa
open Go.GX Go.RowKit
set_option maxRecDepth 100000

/-! ### Closure -/

noncomputable def closeL (E : Nat → Nat → Prop) (n : Nat) : List Int := (List.range n).map fun a => ((maskP n (fun b => ∃ k, Wk E k a b) : Nat) : Int)
noncomputable def closeS (E : Nat → Nat → Prop) (n i j : Nat) : List Int := (List.range n).map fun a => if a < i then ((maskP n (fun b => ∃ k, k ≤ n ∧ Wk E k a b) : Nat) : Int) else if a = i then ((maskP n (fun b => ∃ k, k < j ∧ Wk E k a b) : Nat) : Int) else 0
theorem closeS_len (E : Nat → Nat → Prop) (n i j : Nat) : (closeS E n i j).length = n := by simp [closeS]
theorem closeS_get {E : Nat → Nat → Prop} {n i j a : Nat} (h : a < (closeS E n i j).length) : (closeS E n i j)[a] = if a < i then ((maskP n (fun b => ∃ k, k ≤ n ∧ Wk E k a b) : Nat) : Int) else if a = i then ((maskP n (fun b => ∃ k, k < j ∧ Wk E k a b) : Nat) : Int) else 0 := by simp [closeS]
theorem closeS_I64 {E : Nat → Nat → Prop} {n i j : Nat} (hn : n ≤ 12) : ∀ x ∈ closeS E n i j, I64 x := fun x hx => by
  obtain ⟨a, _, rfl⟩ := List.mem_map.1 hx
  split
  · exact mask_I64 hn _
  · split
    · exact mask_I64 hn _
    · unfold I64; omega
theorem closeS_next (E : Nat → Nat → Prop) (n i : Nat) : closeS E n i (n + 1) = closeS E n (i + 1) 0 := by
  apply List.ext_getElem
  · simp [closeS]
  · intro a h1 h2
    rw [closeS_get h1, closeS_get h2]
    by_cases hlt : a < i
    · rw [if_pos hlt, if_pos (by omega)]
    · rw [if_neg hlt]
      by_cases he : a = i
      · rw [if_pos he, if_pos (by omega)]
        congr 1
        exact maskP_congr fun b _ => ⟨fun ⟨k, hk, hw⟩ => ⟨k, by omega, hw⟩, fun ⟨k, hk, hw⟩ => ⟨k, by omega, hw⟩⟩
      · rw [if_neg he, if_neg (by omega)]
        by_cases he2 : a = i + 1
        · rw [if_pos he2, maskP_none fun b _ ⟨k, hk, _⟩ => by omega]; rfl
        · rw [if_neg he2]
theorem closeS_set {E : Nat → Nat → Prop} {n i j : Nat} : (closeS E n i j).set i ((maskP n (fun b => (∃ k, k < j ∧ Wk E k i b) ∨ Wk E j i b) : Nat) : Int) = closeS E n i (j + 1) := by
  apply List.ext_getElem
  · simp [closeS]
  · intro a h1 h2
    rw [List.getElem_set, closeS_get h2]
    by_cases he : i = a
    · subst he
      rw [if_pos rfl, if_neg (by omega), if_pos rfl]
      congr 1
      refine maskP_congr fun b _ => ⟨?_, ?_⟩
      · rintro (⟨k, hk, hw⟩ | hw)
        · exact ⟨k, by omega, hw⟩
        · exact ⟨j, by omega, hw⟩
      · rintro ⟨k, hk, hw⟩
        by_cases hkj : k = j
        · subst hkj; exact .inr hw
        · exact .inl ⟨k, by omega, hw⟩
    · rw [if_neg he, closeS_get]
      by_cases hlt : a < i
      · rw [if_pos hlt, if_pos hlt]
      · rw [if_neg hlt, if_neg hlt, if_neg (by omega), if_neg (by omega)]
theorem closeS_end {E : Nat → Nat → Prop} {n : Nat} (hE : ∀ x y, E x y → y < n) : closeS E n n 0 = closeL E n := by
  apply List.ext_getElem
  · simp [closeS, closeL]
  · intro a h1 h2
    have ha : a < n := by rw [closeS_len] at h1; exact h1
    rw [closeS_get h1, if_pos ha]
    have e2 : (closeL E n)[a] = ((maskP n (fun b => ∃ k, Wk E k a b) : Nat) : Int) := by simp [closeL]
    rw [e2]
    congr 1
    refine maskP_congr fun b _ => ⟨fun ⟨k, _, hw⟩ => ⟨k, hw⟩, fun ⟨k, hw⟩ => ?_⟩
    rcases Nat.eq_zero_or_pos k with rfl | hk
    · exact ⟨0, by omega, hw⟩
    · obtain ⟨k', _, h3, h4⟩ := hw.short hE hk
      exact ⟨k', h3, h4⟩
theorem closeL_len (E : Nat → Nat → Prop) (n : Nat) : (closeL E n).length = n := by simp [closeL]
theorem closeL_get {E : Nat → Nat → Prop} {n a : Nat} (h : a < (closeL E n).length) : (closeL E n)[a] = ((maskP n (fun b => ∃ k, Wk E k a b) : Nat) : Int) := by simp [closeL]
theorem closeL_I64 {E : Nat → Nat → Prop} {n : Nat} (hn : n ≤ 12) : ∀ x ∈ closeL E n, I64 x := fun x hx => by
  obtain ⟨a, _, rfl⟩ := List.mem_map.1 hx
  exact mask_I64 hn _

theorem closure_ok {w : World} {s : Sl} {p : WPr} (h : RWk w s p) (hg : WGood p) :
    Calls Try.prog F.i_WalkProblem_closure #[.agg #[.int .i64 p.labels, s.v]] w (Ret [.at .sl] fun (r : Sl) w' => Ext w w' ∧ OwnL w' w.heap.size T.t_int r (closeL (arcE p.arcs) p.labels.toNat)) := by
  refine C_i_WalkProblem_closure ?_
  unfold V_i_WalkProblem_closure
  refine NEW_intro fun pp w1 hp1 hs1 hE1 hb1 => LD_bi0 hb1 ?_
  have hl := hg.lab
  obtain ⟨n, hn⟩ : ∃ n : Nat, p.labels = n := ⟨p.labels.toNat, by omega⟩
  have hnt : p.labels.toNat = n := by omega
  have hn12 : n ≤ 12 := by omega
  rw [hnt]
  have hrun : ∀ {K : Sl → World → Prop}, RUN Try.prog (.at .sl) (Instr.makeSlice T.t_sl_int (.int .i64 (n : Int)) (.int .i64 (n : Int))) w1 K → RUN Try.prog (.at .sl) (Instr.makeSlice T.t_sl_int (.int .i64 p.labels) (.int .i64 p.labels)) w1 K := fun hk => by rw [hn]; exact hk
  refine hrun ?_
  refine RUN_make (α := Int) slt_int (d := 0) rfl (by omega) (by unfold maxLen; omega) fun r w2 hE2 hO2 => ?_
  have hE12 := hE1.trans hE2
  have hz1 := hE1.size_le
  have hz2 := hE2.size_le
  have hrl : r.len = n := by have := hO2.1; rw [List.length_replicate] at this; exact this
  rw [hrl]
  have hpB : ∀ {w' : World}, Chg w2 w' (oB r) → Box w' pp T.t_i_WalkProblem [.int .i64 p.labels, s.v] := fun hC => (hb1.ext hE2).chg hC fun hh => by have := (hO2.blk _ hh).1; have := hb1.lt; omega
  have hext : ∀ {w' : World}, Chg w2 w' (oB r) → Ext w w' := fun hC => hC.ext0 hE12 fun k hk => by have := (hO2.blk _ hk).1; omega
  refine ⟨IN n fun i w' => Chg w2 w' (oB r) ∧ OwnL w' w1.heap.size T.t_int r (closeS (arcE p.arcs) n i 0), MN n, IN_zero ⟨Chg.refl _ _, ?_⟩, ?_⟩
  · have e : closeS (arcE p.arcs) n 0 0 = List.replicate n 0 := by
      apply List.ext_getElem
      · simp [closeS]
      · intro a h1 h2
        rw [closeS_get h1, List.getElem_replicate, if_neg (by omega)]
        split
        · rw [maskP_none fun b _ ⟨k, hk, _⟩ => by omega]; rfl
        · rfl
    rw [e]; exact hO2
  rintro _ w3 ⟨i, rfl, hi, hC3, hO3⟩
  intros
  refine cond_dec (fun hlt => ?_) (fun hge => ?_)
  · have hi' : i < n := by omega
    have h3 := h.ext (hext hC3)
    refine LD_is (hpB hC3) (LD_bi0 (hpB hC3) ?_)
    have hcall := reached_ok (a := i) (m := n) h3 hg (by omega) (by omega)
    rw [← hn] at hcall
    refine call hcall ?_
    rintro t w4 ⟨hE4, hO4⟩
    rw [hnt] at hO4
    have hRt := (hO4.rep (reachL_I64 hn12)).any
    have hC4 : Chg w2 w4 (oB r) := hC3.trans (.of_ext hE4)
    have hz4 := hE4.size_le
    rw [hRt.len, reachL_len]
    refine ⟨IN (n + 1) fun j w' => Chg w4 w' (oB r) ∧ OwnL w' w1.heap.size T.t_int r (closeS (arcE p.arcs) n i j), MN (n + 1), IN_zero ⟨Chg.refl _ _, hO3.ext hE4⟩, ?_⟩
    rintro _ w5 ⟨j, rfl, hj, hC5, hO5⟩
    intros
    refine cond_dec (fun hlt2 => ?_) (fun hge2 => ?_)
    · have hj' : j < n + 1 := by omega
      have hRt5 : R w5 t (reachL (arcE p.arcs) n i (n + 1)) := ((hO4.rep (reachL_I64 hn12)).chg hC5 fun b hb _ hD => by
        have h1 := (hO3.blk _ hD).2
        have h2 : w3.heap.size ≤ b := hb
        omega).any
      have hjl : j < (reachL (arcE p.arcs) n i (n + 1)).length := by rw [reachL_len]; exact hj'
      have hil : i < (closeS (arcE p.arcs) n i j).length := by rw [closeS_len]; exact hi'
      refine hRt5.ixI hjl fun q _ hc => LD_int hc ?_
      refine (hO5.rep (closeS_I64 hn12)).any.ixI hil fun q2 _ hc2 => LD_int hc2 ?_
      rw [reachL_get hjl, closeS_get hil, if_neg (by omega), if_pos rfl, or_maskP hn12]
      refine IX_own hO5 hil rfl fun q3 hq3 => ?_
      refine ST_own hO5 hil hq3 (((maskP n (fun b => (∃ k, k < j ∧ Wk (arcE p.arcs) k i b) ∨ Wk (arcE p.arcs) j i b) : Nat) : Int)) rfl fun w6 hO6 hs6 => ?_
      rw [closeS_set] at hO6
      exact IN_next (by omega) hj' ⟨hC5.trans (.of_step hs6 fun k hk => hk), hO6⟩
    · have : j = n + 1 := by omega
      subst this
      rw [closeS_next] at hO5
      exact IN_next (by omega) hi' ⟨hC4.trans hC5, hO5⟩
  · have : i = n := by omega
    subst this
    rw [closeS_end fun x y hxy => by have := (hg.rel hxy).2; omega] at hO3
    exact ⟨hext hC3, hO3.low hz1⟩

end Go.Proofs.Ytnhidomgpbohiaa
end
