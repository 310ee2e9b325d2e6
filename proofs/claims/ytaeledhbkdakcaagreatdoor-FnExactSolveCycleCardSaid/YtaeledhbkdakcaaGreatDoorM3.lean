/- Own texts, merged: Copy, Mask, Edges, Col, Write, Mark, Lib, Drop, Reduce, Match, Sets, Max, Order, Cy1, Values, Sorted, RowsD, Mat, Conf, Prob, Trod, Open, ProbIn, EdgeCol, Fault, MapPure, Solution, Map, Far, Dom, Cy2, RootPure, WalkI1, RowsR. -/
import Derived.Test.YtaeledhbkdakcaaGreatDoorM2
import Derived.Laws.IdiomCopy
import Derived.RangeFuncBox
import Derived.RangeFuncLeaves
import Derived.Shelf.Abstract
import Derived.WalkKit
import Derived.OwnWalkIn
import Derived.TacticsInMore
import Derived.LoopNIn
import Derived.LoopIn
import Derived.Test.YtaeledhbkdakcaaGreatDoorProg
import Derived.Maps.AppendAt
import Derived.Deep.Slices
import Derived.Lib.SmallJoins
import Derived.OpenShut
import Derived.ShutString
import Derived.ChangeOld
import Derived.Carry
import Derived.ProofKit
set_option linter.unusedVariables false
section
/- Copying between slices, digits of numbers. No program is named here. -/
namespace Go.GX
open Go.RowKit

/-! ### Digits -/

theorem wrap_u64 {n : Int} (h0 : 0 ≤ n) (h1 : n < 18446744073709551616) : IntKind.u64.wrap n = n := by
  have e1 : (2 : Int) ^ 64 = 18446744073709551616 := rfl
  have hs : IntKind.u64.signed = false := rfl
  simp only [IntKind.wrap, IntKind.bits, hs, Bool.false_and, e1]
  rw [Int.emod_eq_of_lt h0 h1]; simp

theorem ofInt_toNat (n : Nat) (h : n < 18446744073709551616) : (BitVec.ofInt 64 (n : Int)).toNat = n := by
  rw [BitVec.toNat_ofInt]
  have : ((2 ^ 64 : Nat) : Int) = 18446744073709551616 := rfl
  rw [this]
  omega

theorem bitAnd_u64 (a b : Nat) (ha : a < 18446744073709551616) (hb : b < 18446744073709551616) : bitAnd .u64 a b = ((a &&& b : Nat) : Int) := by
  unfold bitAnd
  have h1 : (BitVec.ofInt IntKind.u64.bits (a : Int) &&& BitVec.ofInt IntKind.u64.bits (b : Int)).toNat = a &&& b := by
    show (BitVec.ofInt 64 (a : Int) &&& BitVec.ofInt 64 (b : Int)).toNat = a &&& b
    rw [BitVec.toNat_and, ofInt_toNat a ha, ofInt_toNat b hb]
  rw [h1]
  have := Nat.and_le_left (n := a) (m := b)
  exact wrap_u64 (by omega) (by omega)

theorem bitAnd_u64_low (a : Nat) (ha : a < 4294967296) : bitAnd .u64 a 4294967295 = a := by
  have := bitAnd_u64 a 4294967295 (by omega) (by omega)
  rw [show ((4294967295 : Nat) : Int) = 4294967295 from rfl] at this
  rw [this]
  congr 1
  have := Nat.and_two_pow_sub_one_eq_mod a 32
  rw [show (2 : Nat) ^ 32 - 1 = 4294967295 from rfl, show (2 : Nat) ^ 32 = 4294967296 from rfl] at this
  rw [this]
  exact Nat.mod_eq_of_lt ha

theorem shr_nat (k : IntKind) (a j : Nat) (hj : j ≤ k.bits) : shrI k a j = ((a / 2 ^ j : Nat) : Int) := by
  unfold shrI
  rw [Int.toNat_natCast, Nat.min_eq_left hj, Int.fdiv_eq_ediv_of_nonneg _ (Int.le_of_lt (Int.pow_pos (by decide)))]
  simp

/-! ### Cutting -/

/-- s[lo:] of a slice of the call's own. -/
theorem SLC_from {s : Sl} {lo : Nat} {sz : Nat} (hle : s.len ≤ s.cap) (hlo : lo ≤ s.len) {K : Sl → Prop}
    (hk : ∀ d : Sl, d.len = s.len - lo → (lo < s.len → d.a = s.a.map (·.add (lo * sz))) → K d) : SLC s (some (lo : Int)) none sz K := by
  refine ⟨by simp, by simp; omega, by simp; omega, hk _ ?_ ?_⟩
  · simp
  · intro hlt
    simp
    intro h; omega

theorem SLC_from' {s : Sl} {lo : Nat} {sz : Nat} (hle : s.len ≤ s.cap) (hlo : lo ≤ s.len) {K : Sl → Prop}
    (hk : ∀ d : Sl, d.len = s.len - lo → d.cap = s.cap - lo → (lo < s.len → d.a = s.a.map (·.add (lo * sz))) → K d) : SLC s (some (lo : Int)) none sz K := by
  refine ⟨by simp, by simp; omega, by simp; omega, hk _ ?_ ?_ ?_⟩
  · simp
  · simp
  · intro hlt
    simp
    intro h; omega

/-- s[:hi]. -/
theorem SLC_to {s : Sl} {hi : Nat} {sz : Nat} (hhi : hi ≤ s.cap) {K : Sl → Prop}
    (hk : ∀ d : Sl, d.len = hi → d.a = s.a → d.cap = s.cap → K d) : SLC s none (some (hi : Int)) sz K := by
  refine ⟨by simp, by simp, by simp; omega, hk _ (by simp) ?_ (by simp)⟩
  simp
  intro _
  cases s.a <;> simp [add_zero']

/-! ### copy -/

theorem flat1 {α : Type} [Flat α] (h1 : Rep.sz α = 1) (l : List α) : ∃ f : α → Value, l.flatMap Flat.cells = l.map f ∧ ∀ x ∈ l, Flat.cells x = [f x] := by
  refine ⟨fun x => (Flat.cells x).headD undef, ?_, ?_⟩
  · induction l with
    | nil => rfl
    | cons x r ih =>
      rw [List.flatMap_cons, List.map_cons, ih]
      have hx : (Flat.cells x).length = 1 := by rw [Flat.size]; exact h1
      match hc : Flat.cells x, hx with
      | [v], _ => rfl
  · intro x _
    have hx : (Flat.cells x).length = 1 := by rw [Flat.size]; exact h1
    match hc : Flat.cells x, hx with
    | [v], _ => simp [hc]

/-- copy(d, y): d a part, from place off on, of a slice of the call's own. -/
theorem RUN_copy {α : Type} [Flat α] (hα : Rep.sz α = 1) {P : Program} {t ti e : TypeId} {bytes : Nat} {z : Value} (hT : SlT P t e 1 bytes z) {w : World} {base : Nat} {s d y : Sl} {l m : List α} (h : OwnL w base e s l)
    {off : Nat} (hd : 0 < d.len → d.a = s.a.map (·.add off)) (hfit : off + d.len ≤ l.length) {D : Nat → Prop} (hy : SlR D w y m) {K : Int → World → Prop}
    (hk : ∀ w', OwnL w' base e s (l.take off ++ m.take d.len ++ l.drop (off + min m.length d.len)) → Step w w' s.v.ownBlock → w'.heap.size = w.heap.size → K ((min m.length d.len : Nat) : Int) w') :
    RUN P (.at (.int .i64)) (bsem .copy #[t, t] ti #[d.v, y.v]) w K := by
  obtain ⟨i, hi, hz0, hsz, hby⟩ := hT.parts
  have hs1 : (P.info? e).map (·.size) = some 1 := by rw [hi]; simp [hsz]
  have fin : ∀ n w', (Builtin.copy_ #[t, t] ti #[d.v, y.v]).run P w = .ok (goInt n) w' → K (n : Int) w' → RUN P (.at (.int .i64)) (bsem .copy #[t, t] ti #[d.v, y.v]) w K := by
    intro n w' hr hK
    unfold RUN
    show (match (Builtin.copy_ #[t, t] ti #[d.v, y.v]).run P w with | .ok v w' => _ | .halt _ _ => False)
    rw [hr]
    exact hK
  have hyl := hy.len
  by_cases hmin : min m.length d.len = 0
  · refine fin 0 w ?_ ?_
    · exact run_copy_none (P := P) w t t ti e d.a y.a d.len d.cap y.len y.cap hT.under hs1 (by rw [hyl]; exact hmin)
    · have := hk w ?_ (Step.refl _ _) rfl
      · rwa [hmin] at this
      · rw [hmin]
        have : m.take d.len = [] := by
          apply List.eq_nil_of_length_eq_zero; rw [List.length_take]; omega
        rw [this]
        simpa using h
  · have hm0 : 0 < m.length := by omega
    have hd0 : 0 < d.len := by omega
    rcases h.2.2 with ⟨hv, h0⟩ | ⟨g, cap, cur, hv, hb, hg, hle, hmx, hcs, htake⟩
    · have := h.1; omega
    · have hv' := hv
      simp [Sl.v] at hv
      obtain ⟨hsa, rfl⟩ := hv
      have hda : d.a = some ⟨g, off, none⟩ := by
        rw [hd hd0, hsa]
        simp only [Option.map_some, Addr.add]
        split <;> simp_all
      obtain ⟨ya, _, hya, _⟩ := hy.2.2 0 m[0] (by simp [hm0])
      obtain ⟨f, hf, hf1⟩ := flat1 hα m
      obtain ⟨fl, hfl, hl1⟩ := flat1 hα l
      have hsrc := hy.flat hya
      rw [hf] at hsrc
      have hll := h.1
      rw [hα] at hcs htake
      rw [hfl] at htake
      have hcsz : cur.size = s.cap := by omega
      have hone : ∀ v ∈ m.map f, v.oneCell' = true := by
        intro v hv
        obtain ⟨x, hx, rfl⟩ := List.mem_map.1 hv
        exact Flat.one x _ (by rw [hf1 x hx]; simp)
      have hr := run_copy_row (P := P) w t t ti e g off d.len d.cap ya y.len y.cap cur e ((m.map f).take d.len) hT.under hs1 hg (by rw [List.length_take, List.length_map, hyl]; exact Nat.min_comm _ _) (fun j v hj => hsrc j v (by
          rw [List.getElem?_take] at hj
          split at hj
          · exact hj
          · cases hj)) (by rw [List.length_take, List.length_map]; omega) (fun v hv => hone v (List.mem_of_mem_take hv))
      have hdv : d.v = .slice (some ⟨g, off, none⟩) d.len d.cap := by simp [Sl.v, hda]
      have hyv : y.v = .slice (some ya) y.len y.cap := by simp [Sl.v, hya]
      rw [← hdv, ← hyv] at hr
      have hlen : ((m.map f).take d.len).length = min m.length d.len := by rw [List.length_take, List.length_map]; exact Nat.min_comm _ _
      refine fin _ _ hr ?_
      rw [hlen]
      refine hk _ ?_ ⟨rfl, rfl, rfl, by simp, fun k _ hne => setRow_other _ _ _ _ (by intro he; subst he; exact hne (by rw [hv']; rfl))⟩ (by simp)
      refine ⟨?_, ?_, ?_⟩
      · simp only [List.length_append, List.length_take, List.length_drop]; omega
      · have hall : ∀ q : List α, (q.flatMap Flat.cells).length = q.length := by
          intro q
          obtain ⟨fq, hfq, _⟩ := flat1 hα q
          rw [hfq]; simp
        rw [hall, hα]
        simp only [List.length_append, List.length_take, List.length_drop]; omega
      · refine .inr ⟨g, s.cap, _, hv', hb, setRow_heap _ _ _ _ _ _ hg, hle, hmx, ?_, ?_⟩
        · rw [hα]
          simp only [List.size_toArray, List.length_append, List.length_take, List.length_drop, List.length_map, Array.length_toList]
          omega
        · rw [hα, Nat.mul_one]
          have e1 : (l.take off ++ m.take d.len ++ l.drop (off + min m.length d.len)).flatMap Flat.cells = (l.map fl).take off ++ (m.map f).take d.len ++ (l.map fl).drop (off + min m.length d.len) := by
            rw [List.flatMap_append, List.flatMap_append]
            have hsub : ∀ (q : List α) (g : α → Value), (∀ x ∈ q, Flat.cells x = [g x]) → q.flatMap Flat.cells = q.map g := by
              intro q g hq
              induction q with
              | nil => rfl
              | cons x r ih => rw [List.flatMap_cons, hq x (by simp), ih (fun y hy => hq y (by simp [hy]))]; rfl
            rw [hsub (l.take off) fl (fun x hx => hl1 x (List.mem_of_mem_take hx)), hsub (m.take d.len) f (fun x hx => hf1 x (List.mem_of_mem_take hx)), hsub (l.drop _) fl (fun x hx => hl1 x (List.mem_of_mem_drop hx)), List.map_take, List.map_take, List.map_drop]
          rw [e1]
          have hcl : (l.map fl) = cur.toList.take s.len := by rw [← htake, Nat.mul_one]
          rw [hcl]
          have hcl2 : cur.toList.length = s.cap := by simp [hcsz]
          apply List.ext_getElem?
          intro j
          simp only [List.getElem?_take, List.getElem?_append, List.getElem?_drop, List.length_append, List.length_take, List.length_map, hcl2]
          by_cases hj : j < s.len
          · by_cases h1 : j < off
            · have a1 : j < min off s.cap := by omega
              have a2 : j < min off s.cap + min d.len m.length := by omega
              have a3 : j < min off (min s.len s.cap) := by omega
              have a4 : j < min off (min s.len s.cap) + min d.len m.length := by omega
              simp only [hj, h1, a1, a2, a3, a4, if_true]
            · by_cases h2 : j < off + min m.length d.len
              · have a1 : ¬ j < min off s.cap := by omega
                have a2 : j < min off s.cap + min d.len m.length := by omega
                have a3 : ¬ j < min off (min s.len s.cap) := by omega
                have a4 : j < min off (min s.len s.cap) + min d.len m.length := by omega
                simp only [hj, a1, a2, a3, a4, if_true, if_false]
                rw [show j - min off s.cap = j - min off (min s.len s.cap) by omega]
              · have a2 : ¬ j < min off s.cap + min d.len m.length := by omega
                have a4 : ¬ j < min off (min s.len s.cap) + min d.len m.length := by omega
                simp only [hj, a2, a4, if_true, if_false]
                rw [show off + min m.length d.len + (j - (min off s.cap + min d.len m.length)) = j by omega, show off + min m.length d.len + (j - (min off (min s.len s.cap) + min d.len m.length)) = j by omega, if_pos hj]
          · have a4 : ¬ j < min off (min s.len s.cap) + min d.len m.length := by omega
            simp only [hj, a4, if_false]
            rw [if_neg (by omega)]

/-! ### clear, and the first part of a slice of the call's own -/

theorem OwnL.front {α : Type} [Flat α] {w : World} {base : Nat} {e : TypeId} {s : Sl} {l : List α} (h : OwnL w base e s l) {k : Nat} (hk : k ≤ l.length) : OwnL w base e ⟨s.a, k, s.cap⟩ (l.take k) := by
  have hlen : ∀ q : List α, (q.flatMap Flat.cells).length = q.length * Rep.sz α := by
    intro q
    induction q with
    | nil => simp
    | cons x r ih => rw [List.flatMap_cons, List.length_append, ih, Flat.size x, List.length_cons, Nat.succ_mul, Nat.add_comm]
  refine ⟨by simp; omega, ?_, ?_⟩
  · rw [hlen, List.length_take, Nat.min_eq_left hk]
  · rcases h.2.2 with ⟨hv, h0⟩ | ⟨g, cap, cur, hv, hb, hg, hle, hmx, hsz, htake⟩
    · simp [Sl.v] at hv
      have := h.1
      refine .inl ⟨?_, by simp only; omega⟩
      simp [Sl.v, hv.1]
      omega
    · have hv' := hv
      simp [Sl.v] at hv
      have hl := h.1
      refine .inr ⟨g, cap, cur, ?_, hb, hg, by simp only; omega, hmx, hsz, ?_⟩
      · simp [Sl.v, hv.1, hv.2]
      · have hk2 : ((l.take k).flatMap Flat.cells).length = k * Rep.sz α := by rw [hlen, List.length_take, Nat.min_eq_left hk]
        have e2 : (l.take k).flatMap Flat.cells = (l.flatMap Flat.cells).take (k * Rep.sz α) := by
          have e3 : l.flatMap Flat.cells = (l.take k).flatMap Flat.cells ++ (l.drop k).flatMap Flat.cells := by rw [← List.flatMap_append, List.take_append_drop]
          rw [e3, ← hk2, List.take_left]
        rw [e2, ← htake, List.take_take]
        have : k * Rep.sz α ≤ s.len * Rep.sz α := Nat.mul_le_mul_right _ (by omega)
        rw [Nat.min_eq_left this]

end Go.GX
end

section
/- Sets of labels by predicates; labels of a set, up to twelve. -/
namespace Go.Proofs.YtaeledhbkdakcaaGreatDoor
open Go.GX Go.RowKit
set_option maxRecDepth 100000

noncomputable def maskP (n : Nat) (P : Nat → Prop) : Nat := by
  classical exact maskOf n fun a => decide (P a)
theorem testBit_maskP {n : Nat} {P : Nat → Prop} {a : Nat} : (maskP n P).testBit a = true ↔ a < n ∧ P a := by
  classical
  unfold maskP
  rw [testBit_maskOf]
  simp
theorem maskP_lt (n : Nat) (P : Nat → Prop) : maskP n P < 2 ^ n := maskOf_lt _ _
theorem maskP_small {n : Nat} (hn : n ≤ 12) (P : Nat → Prop) : maskP n P < 4096 := Nat.lt_of_lt_of_le (maskP_lt n P) (Nat.pow_le_pow_right (n := 2) (by decide) hn)
theorem maskP_eq {n : Nat} {P : Nat → Prop} {m : Nat} (hm : m < 2 ^ n) (h : ∀ a < n, m.testBit a = true ↔ P a) : m = maskP n P := by
  apply mask_ext hm (maskP_lt n P)
  intro a ha
  rw [Bool.eq_iff_iff, h a ha, testBit_maskP]
  exact ⟨fun hp => ⟨ha, hp⟩, fun hp => hp.2⟩
theorem maskP_congr {n : Nat} {P Q : Nat → Prop} (h : ∀ a < n, P a ↔ Q a) : maskP n P = maskP n Q :=
  maskP_eq (maskP_lt n P) fun a ha => by rw [testBit_maskP]; exact ⟨fun hp => (h a ha).1 hp.2, fun hq => ⟨ha, (h a ha).2 hq⟩⟩
theorem maskP_none {n : Nat} {P : Nat → Prop} (h : ∀ a < n, ¬ P a) : maskP n P = 0 := (maskP_eq (m := 0) (Nat.two_pow_pos n) fun a ha => by simp [h a ha]).symm
theorem maskP_zero {n : Nat} {P : Nat → Prop} (h : maskP n P = 0) : ∀ a < n, ¬ P a := fun a ha hp => by
  have := testBit_maskP.2 ⟨ha, hp⟩
  rw [h] at this
  simp at this
theorem maskP_or {n : Nat} (P Q : Nat → Prop) : maskP n P ||| maskP n Q = maskP n fun a => P a ∨ Q a := by
  refine maskP_eq (Nat.or_lt_two_pow (maskP_lt n P) (maskP_lt n Q)) fun a ha => ?_
  rw [Nat.testBit_or, Bool.or_eq_true, testBit_maskP, testBit_maskP]
  exact ⟨fun h => h.imp (·.2) (·.2), fun h => h.imp (fun h => ⟨ha, h⟩) (fun h => ⟨ha, h⟩)⟩
theorem maskP_and {n : Nat} (P Q : Nat → Prop) : maskP n P &&& maskP n Q = maskP n fun a => P a ∧ Q a := by
  refine maskP_eq (Nat.lt_of_le_of_lt Nat.and_le_left (maskP_lt n P)) fun a ha => ?_
  rw [Nat.testBit_and, Bool.and_eq_true, testBit_maskP, testBit_maskP]
  exact ⟨fun h => ⟨h.1.2, h.2.2⟩, fun h => ⟨⟨ha, h.1⟩, ha, h.2⟩⟩
theorem maskP_bit {n b : Nat} (hb : b < n) : 2 ^ b = maskP n fun a => a = b := by
  refine maskP_eq (Nat.pow_lt_pow_right (by decide) hb) fun a ha => ?_
  rw [Nat.testBit_two_pow]
  simp only [decide_eq_true_eq]
  exact ⟨fun h => h.symm, fun h => h.symm⟩

/-- The bit operations at sets. -/
theorem or_maskP {n : Nat} (hn : n ≤ 12) (P Q : Nat → Prop) : bitOr .i64 ((maskP n P : Nat) : Int) ((maskP n Q : Nat) : Int) = ((maskP n (fun a => P a ∨ Q a) : Nat) : Int) := by
  have h1 := maskP_small hn P
  have h2 := maskP_small hn Q
  rw [or_nat (by omega) (by omega), maskP_or]
theorem and_maskP {n : Nat} (hn : n ≤ 12) (P Q : Nat → Prop) : bitAnd .i64 ((maskP n P : Nat) : Int) ((maskP n Q : Nat) : Int) = ((maskP n (fun a => P a ∧ Q a) : Nat) : Int) := by
  have h1 := maskP_small hn P
  have h2 := maskP_small hn Q
  rw [and_nat (by omega) (by omega), maskP_and]
theorem shl_maskP {n b : Nat} (hn : n ≤ 12) (hb : b < n) : shlI .i64 1 (b : Int) = ((maskP n (fun a => a = b) : Nat) : Int) := by
  rw [shl_one (by omega), maskP_bit hb]
theorem shrM {m a : Nat} (ha : a ≤ 60) : shrI .i64 (m : Int) (a : Int) = ((m / 2 ^ a : Nat) : Int) := shr_nat .i64 m a (by show a ≤ 64; omega)
theorem bitM {m a : Nat} (hm : m < 4611686018427387904) : bitAnd .i64 ((m / 2 ^ a : Nat) : Int) 1 = if m.testBit a then 1 else 0 := by
  have h1 : m / 2 ^ a ≤ m := Nat.div_le_self _ _
  have h2 := and_nat (a := m / 2 ^ a) (b := 1) (by omega) (by omega)
  have e : ((1 : Nat) : Int) = 1 := rfl
  rw [e] at h2
  rw [h2, Nat.and_one_is_mod, Nat.testBit_eq_decide_div_mod_eq]
  have h3 : m / 2 ^ a % 2 < 2 := Nat.mod_lt _ (by decide)
  by_cases h : m / 2 ^ a % 2 = 1
  · simp [h]
  · have : m / 2 ^ a % 2 = 0 := by omega
    simp [this]
/-- set>>a&1 -/
theorem bit_maskP {n a : Nat} (hn : n ≤ 12) (ha : a < n) (P : Nat → Prop) [Decidable (P a)] : bitAnd .i64 (shrI .i64 ((maskP n P : Nat) : Int) (a : Int)) 1 = if P a then 1 else 0 := by
  have h1 := maskP_small hn P
  rw [shrM (by omega), bitM (by omega)]
  by_cases hp : P a
  · rw [if_pos hp, if_pos (testBit_maskP.2 ⟨ha, hp⟩)]
  · rw [if_neg hp, if_neg fun h => hp (testBit_maskP.1 h).2]

/-! ### The labels of a set -/

def labsN (m a : Nat) : List Int := ((List.range a).filter fun a => m.testBit a).map fun (a : Nat) => (a : Int)
def labs (m : Nat) : List Int := labsN m 12
theorem labsN_succ (m a : Nat) : labsN m (a + 1) = labsN m a ++ (if m.testBit a then [(a : Int)] else []) := by
  unfold labsN
  rw [List.range_succ, List.filter_append, List.map_append]
  by_cases h : m.testBit a = true
  · simp [h]
  · simp [h]
theorem labsN_end {m a : Nat} (h : m < 2 ^ a) : ∀ b, a ≤ b → labsN m b = labsN m a := by
  intro b hb
  induction b with
  | zero => have : a = 0 := by omega
            subst this; rfl
  | succ b ih =>
    by_cases he : a = b + 1
    · rw [he]
    · have hab : a ≤ b := by omega
      have h2 : m < 2 ^ b := Nat.lt_of_lt_of_le h (Nat.pow_le_pow_right (by decide) hab)
      rw [labsN_succ, Nat.testBit_lt_two_pow h2, ih hab]
      simp
theorem mem_labs {m : Nat} {x : Int} : x ∈ labs m ↔ ∃ a : Nat, x = a ∧ a < 12 ∧ m.testBit a = true := by
  unfold labs labsN
  rw [List.mem_map]
  constructor
  · rintro ⟨a, ha, rfl⟩
    rw [List.mem_filter, List.mem_range] at ha
    exact ⟨a, rfl, ha.1, ha.2⟩
  · rintro ⟨a, rfl, h1, h2⟩
    exact ⟨a, List.mem_filter.2 ⟨List.mem_range.2 h1, h2⟩, rfl⟩
theorem labs_sorted (m : Nat) : (labs m).Pairwise (· < ·) := by
  unfold labs labsN
  rw [List.pairwise_map]
  exact (List.pairwise_lt_range.filter _).imp fun h => by omega
theorem mem_labsP {n : Nat} (hn : n ≤ 12) {P : Nat → Prop} {x : Int} : x ∈ labs (maskP n P) ↔ ∃ a : Nat, x = a ∧ a < n ∧ P a := by
  rw [mem_labs]
  constructor
  · rintro ⟨a, h1, _, h3⟩
    obtain ⟨h4, h5⟩ := testBit_maskP.1 h3
    exact ⟨a, h1, h4, h5⟩
  · rintro ⟨a, h1, h2, h3⟩
    exact ⟨a, h1, by omega, testBit_maskP.2 ⟨h2, h3⟩⟩
theorem labs_I64 (m : Nat) : ∀ x ∈ labs m, I64 x := fun x hx => by
  obtain ⟨a, rfl, h, _⟩ := mem_labs.1 hx
  unfold I64; omega
theorem labsN_len (m a : Nat) : (labsN m a).length ≤ a := by
  unfold labsN
  rw [List.length_map]
  have := List.length_filter_le (fun a => m.testBit a) (List.range a)
  rwa [List.length_range] at this
theorem labs_len (m : Nat) : (labs m).length ≤ 12 := labsN_len m 12
theorem divM_zero {m a : Nat} : m / 2 ^ a = 0 ↔ m < 2 ^ a := by
  rw [Nat.div_eq_zero_iff]
  have := Nat.two_pow_pos a
  omega

theorem labels12_ok {m : Nat} (hm : m < 4096) (w : World) :
    Calls Tryz.prog F.i_labelsIn #[.int .i64 m] w (Ret [.at .sl] fun (r : Sl) w' => Ext w w' ∧ OwnL w' w.heap.size T.t_int r (labs m)) := by
  refine C_i_labelsIn ?_
  unfold V_i_labelsIn
  refine ⟨fun (out : Sl) (x : Int) w' => ∃ a : Nat, x = a ∧ a ≤ 12 ∧ Ext w w' ∧ OwnL w' w.heap.size T.t_int out (labsN m a), fun _ x _ => 12 - x.toNat, ⟨0, rfl, by omega, Ext.refl _, OwnL.nil _ _ _⟩, ?_⟩
  rintro out _ w1 ⟨a, rfl, ha, hE1, hO⟩
  intros
  rw [shrM (by omega)]
  refine ⟨by omega, cond_ne (fun hne => ⟨by omega, ?_⟩) (fun heq => ?_)⟩
  · have ha8 : a < 12 := by
      have h1 : m / 2 ^ a ≠ 0 := fun h => hne (by rw [h]; rfl)
      rcases Nat.lt_or_eq_of_le ha with h | h
      · exact h
      · subst h; exact absurd (divM_zero.2 (by omega)) h1
    rw [bitM (by omega)]
    have hlen := labsN_len m a
    have hz := hE1.size_le
    by_cases hb : m.testBit a = true
    · rw [if_pos hb]
      refine cond_t (by rfl) ?_
      refine RUN_lit1 (α := Int) slt_int _ rfl (by decide) fun x w2 hE2 hO2 => ?_
      have hO1 := hO.ext hE2
      refine RUN_append (α := Int) slt_int hO1 (by have := hE2.size_le; omega) (hO2.rep (by intro x hx; rw [List.mem_singleton.1 hx]; show I64 _; unfold I64; omega)).any (by simp; omega) (by simp [maxLen]; omega) fun r w3 hO3 hs3 => ?_
      rw [wrap_of (by omega) (by omega)]
      refine ⟨⟨a + 1, by omega, by omega, hs3.ext0 (hE1.trans hE2) fun k hk => (hO1.blk k hk).1, ?_⟩, by simp only []; omega⟩
      rw [labsN_succ, if_pos hb]; exact hO3
    · rw [if_neg hb]
      refine cond_f (by rfl) ?_
      rw [wrap_of (by omega) (by omega)]
      refine ⟨⟨a + 1, by omega, by omega, hE1, ?_⟩, by simp only []; omega⟩
      rw [labsN_succ, if_neg hb, List.append_nil]; exact hO
  · have h1 : m / 2 ^ a = 0 := by have : ((m / 2 ^ a : Nat) : Int) = 0 := heq; omega
    have e := labsN_end (divM_zero.1 h1) 12 ha
    unfold labs
    rw [e]
    exact ⟨hE1, hO⟩

end Go.Proofs.YtaeledhbkdakcaaGreatDoor
end

section
/- Edges: both sides' lists of them, and searching in lists of numbers, ends and edges. -/
namespace Go.Proofs.YtaeledhbkdakcaaGreatDoor
open Go.GX Go.RowKit
set_option maxRecDepth 100000

abbrev Edge := Int × Int × Int × Int

/-- The port of an edge that bears it: the lesser of its two ends. -/
def isFirst (v i : Nat) (e : Int × Int) : Bool := decide ((v : Int) < e.1) || ((v : Int) == e.1 && decide ((i : Int) ≤ e.2))

def portE (E : Ends) (v i : Nat) : List Edge := match port E v i with
  | some e => if isFirst v i e then [((v : Int), (i : Int), e.1, e.2)] else []
  | none => []
def rowE (E : Ends) (v : Nat) : Nat → List Edge
  | 0 => []
  | i + 1 => rowE E v i ++ portE E v i
def edgesTo (E : Ends) : Nat → List Edge
  | 0 => []
  | v + 1 => edgesTo E v ++ rowE E v (rowOf E v).length
def edgesOf (E : Ends) : List Edge := edgesTo E E.length

/-! ### Searching -/

def Found {α : Type} (l : List α) (p : α → Bool) (i : Int) : Prop := match l.findIdx? p with | some k => i = k | none => i = -1

theorem found_ge {α : Type} {l : List α} {p : α → Bool} {i : Int} (h : Found l p i) : decide (i ≥ 0) = l.any p := by
  unfold Found at h
  cases hf : l.findIdx? p with
  | none =>
    rw [hf] at h
    simp only at h
    subst h
    have h1 := List.findIdx?_eq_none_iff.1 hf
    have : l.any p = false := by
      rw [List.any_eq_false]; intro x hx; simp [h1 x hx]
    rw [this]; rfl
  | some k =>
    rw [hf] at h
    simp only at h
    subst h
    obtain ⟨hk, hp, _⟩ := List.findIdx?_eq_some_iff_getElem.1 hf
    have : l.any p = true := List.any_eq_true.2 ⟨l[k], List.getElem_mem hk, hp⟩
    rw [this]
    simp

theorem found_at {α : Type} {l : List α} {p : α → Bool} {i : Nat} (hi : i < l.length) (ha : ∀ x ∈ l.take i, p x = false) (ht : p l[i] = true) : Found l p i := by
  have : l.findIdx? p = some i := by
    rw [List.findIdx?_eq_some_iff_getElem]
    refine ⟨hi, ht, fun j hj => ?_⟩
    have := ha l[j] (by rw [List.mem_take_iff_getElem]; exact ⟨j, by omega, rfl⟩)
    simp [this]
  unfold Found
  rw [this]

theorem found_no {α : Type} {l : List α} {p : α → Bool} (ha : ∀ x ∈ l, p x = false) : Found l p (-1) := by
  have : l.findIdx? p = none := List.findIdx?_eq_none_iff.2 ha
  unfold Found
  rw [this]

theorem none_succ {α : Type} {l : List α} {p : α → Bool} {i : Nat} (hi : i < l.length) (ha : ∀ x ∈ l.take i, p x = false) (hf : p l[i] = false) : ∀ x ∈ l.take (i + 1), p x = false := by
  intro y hy
  rw [List.take_succ_eq_append_getElem hi] at hy
  rcases List.mem_append.1 hy with h1 | h1
  · exact ha y h1
  · rw [List.mem_singleton.1 h1]; exact hf

theorem index_ok {w : World} {s : Sl} {l : List Int} (h : R w s l) (x : Int) :
    Calls Tryz.prog F.slices_Index_sl_int_int #[s.v, .int .i64 x] w (Ret [.at (.int .i64)] fun (i : Int) w' => Found l (fun y => x == y) i ∧ w = w') := by
  refine C_slices_Index_sl_int_int ?_
  unfold V_slices_Index_sl_int_int
  rw [h.len]
  refine ⟨IN l.length fun i w' => w = w' ∧ ∀ y ∈ l.take i, (x == y) = false, MN l.length, IN_zero ⟨rfl, by simp⟩, ?_⟩
  rintro _ w1 ⟨i, rfl, hi', rfl, ha⟩
  intros
  refine cond_dec (fun hlt => ?_) (fun hge => ⟨?_, rfl⟩)
  · have hlt' : i < l.length := by omega
    refine h.ixI hlt' fun q _ hc => LD_int hc ?_
    exact cond_b (fun ht => ⟨found_at hlt' ha ht, rfl⟩) (fun hf => IN_next h.le hlt' ⟨rfl, none_succ hlt' ha hf⟩)
  · have : i = l.length := by omega
    subst this
    exact found_no (by simpa using ha)

theorem contains_ok {w : World} {s : Sl} {l : List Int} (h : R w s l) (x : Int) :
    Calls Tryz.prog F.slices_Contains_sl_int_int #[s.v, .int .i64 x] w (Ret [.at .bool] fun (b : Bool) w' => b = l.contains x ∧ w = w') := by
  refine C_slices_Contains_sl_int_int ?_
  unfold V_slices_Contains_sl_int_int
  refine call (index_ok h x) ?_
  rintro i _ ⟨hi, rfl⟩
  refine ⟨?_, rfl⟩
  rw [found_ge hi, ← List.any_beq]

end Go.Proofs.YtaeledhbkdakcaaGreatDoor
end

section
/- Proper colourings: both sides' tests. -/
namespace Go.Proofs.YtaeledhbkdakcaaGreatDoor
open Go.GX Go.RowKit
set_option maxRecDepth 100000

/-- Two nodes with an edge between them, the lesser first, that bear the same. -/
def Clash (E : Ends) (l : List Int) : Prop := ∃ v u : Nat, v ≤ u ∧ v < E.length ∧ u < E.length ∧ (u : Int) ∈ adjOf E v ∧ l.getD v 0 = l.getD u 0

def Proper (n : Net) (l : List Int) : Prop := l.length = n.ends.length ∧ AllIn l 0 1000000000000 ∧ ¬ Clash n.ends l

end Go.Proofs.YtaeledhbkdakcaaGreatDoor
end

section
/- Slices that may be written, whatever they hold: the marks that a law leaves in its arguments and answers. No program is named here. -/
namespace Go.GX
open Go.RowKit

/-- Each cell of the slice may be written. -/
def Wr (w : World) (s : Sl) (sz : Nat) : Prop := ∀ j, j < s.len * sz → ∃ a, s.a = some a ∧ (∃ old, w.cell? (a.add j) = some old) ∧ w.frozen? (a.add j) = false

/-- No cell goes, none is frozen. -/
def Shp (w w' : World) : Prop := (∀ a old, w.cell? a = some old → ∃ new, w'.cell? a = some new) ∧ ∀ a, w.frozen? a = false → (∃ old, w.cell? a = some old) → w'.frozen? a = false

theorem Shp.refl (w : World) : Shp w w := ⟨fun _ old h => ⟨old, h⟩, fun _ h _ => h⟩
theorem Shp.trans {a b c : World} (h : Shp a b) (k : Shp b c) : Shp a c :=
  ⟨fun p old hp => by obtain ⟨n, hn⟩ := h.1 p old hp; exact k.1 p n hn, fun p hf ⟨old, hp⟩ => k.2 p (h.2 p hf ⟨old, hp⟩) (h.1 p old hp)⟩
theorem Shp.setCell (w : World) (p : Addr) (v : Value) : Shp w (w.setCell p v) :=
  ⟨fun a old h => by
    by_cases hp : p = a
    · subst hp; exact ⟨v, World.cell?_setCell_same w p v h⟩
    · exact ⟨old, by rw [World.cell?_setCell_other w p a v hp]; exact h⟩, fun a h _ => by rw [World.frozen?_setCell]; exact h⟩
theorem Shp.ext {w w' : World} (h : Ext w w') : Shp w w' :=
  ⟨fun a old ho => ⟨old, h.cell ho⟩, fun a hf ⟨old, ho⟩ => by
    have hb : w'.heap[a.block]? = w.heap[a.block]? := h.same (cell_lt ho)
    unfold World.frozen? at hf ⊢
    rw [hb]; exact hf⟩

theorem Wr.shp {w w' : World} {s : Sl} {sz : Nat} (h : Wr w s sz) (hs : Shp w w') : Wr w' s sz := fun j hj => by
  obtain ⟨a, ha, ⟨old, hc⟩, hf⟩ := h j hj
  exact ⟨a, ha, hs.1 _ _ hc, hs.2 _ hf ⟨old, hc⟩⟩

theorem OwnL.wr {α : Type} [Flat α] {w : World} {base : Nat} {e : TypeId} {s : Sl} {l : List α} (h : OwnL w base e s l) : Wr w s (Rep.sz α) := fun j hj => by
  rcases h.2.2 with ⟨hv, h0⟩ | ⟨g, cap, cur, hv, hb, hg, hle, _, hsz, htake⟩
  · rw [h0] at hj; simp at hj
  · simp [Sl.v] at hv
    obtain ⟨ha, rfl⟩ := hv
    have hlen := h.2.length
    have hlt : j < (l.flatMap Flat.cells).length := by rw [hlen]; exact hj
    have hown : w.ownsRow base e (Rep.sz α) s.v s.len (l.flatMap Flat.cells) := h.2
    refine ⟨_, ha, ⟨_, World.ownsRow.cells hown (g := g) (by simp [Sl.v, ha, Value.ownBlock]) j _ (List.getElem?_eq_getElem hlt)⟩, ?_⟩
    simp [World.frozen?, add_block, hg]

/-- The block of a slice. -/
def blkOf (s : Sl) (b : Nat) : Prop := ∃ a, s.a = some a ∧ a.block = b

/-- One cell written. -/
theorem ST_wr1 {w : World} {s : Sl} {sz i : Nat} (h : Wr w s sz) {a : Addr} (ha : s.a = some a) {p : Addr} {k : Nat} (hp : p.add k = a.add i) (hi : i < s.len * sz) {v : Value} (h1 : v.oneCell' = true) {K : World → Prop}
    (hk : ∀ w', Shp w w' → Chg w w' (blkOf s) → w'.heap.size = w.heap.size → K w') : ST p k [v] w K := by
  obtain ⟨a', ha', hc, hf⟩ := h i hi
  rw [ha] at ha'; cases ha'
  refine ⟨h1, by rw [hp]; exact hc, by rw [hp]; exact hf, ?_⟩
  rw [hp]
  refine hk _ (Shp.setCell _ _ _) ⟨rfl, rfl, rfl, by rw [setCell_size]; exact Nat.le_refl _, fun b _ hD => ?_⟩ (setCell_size _ _ _)
  refine setCell_other _ _ _ fun he => hD ⟨a, ha, ?_⟩
  rw [he, add_block]

theorem IX_wr {w : World} {s : Sl} {sz i : Nat} (h : Wr w s sz) (hsz : 0 < sz) (hi : i < s.len) {K : Addr → Prop} (hk : ∀ a, s.a = some a → K (a.add (i * sz))) : IX s i sz K := by
  have hj : i * sz < s.len * sz := Nat.mul_lt_mul_of_pos_right hi hsz
  obtain ⟨a, ha, _⟩ := h _ hj
  exact ⟨a, ha, by omega, by omega, by simpa using hk a ha⟩

/-- Numbers in a row. -/
def marks (k : Int) (n : Nat) : List Int := (List.range n).map fun (i : Nat) => k + (i : Int)

theorem marks_length (k : Int) (n : Nat) : (marks k n).length = n := by simp [marks]
theorem marks_get (k : Int) (n i : Nat) (h : i < (marks k n).length) : (marks k n)[i] = k + i := by simp [marks]
theorem marks_I64 {k : Int} {n : Nat} (h0 : 0 ≤ k) (h1 : k + n ≤ 9223372036854775807) : ∀ x ∈ marks k n, I64 x := fun x hx => by
  simp [marks] at hx
  obtain ⟨i, hi, rfl⟩ := hx
  unfold I64; omega

theorem marks_step {k : Int} {l : List Int} {i : Nat} (hi : i < l.length) : (marks k i ++ l.drop i).set i (k + i) = marks k (i + 1) ++ l.drop (i + 1) := by
  have h1 : (marks k i).length = i := marks_length _ _
  rw [List.set_append_right _ _ (by omega), h1, Nat.sub_self, List.drop_eq_getElem_cons hi, List.set_cons_zero]
  simp [marks, List.range_succ]

theorem Chg.extR {w0 w w' : World} {lo hi : Nat} (h : Chg w w' (fun b => lo ≤ b ∧ b < hi)) (hE : Ext w0 w) (hl : w0.heap.size ≤ lo) : Ext w0 w' := h.ext0 hE fun k hk => by have := hk.1; omega
theorem Chg.extB {w0 w w' : World} {lo : Nat} (h : Chg w w' (fun b => lo ≤ b)) (hE : Ext w0 w) (hl : w0.heap.size ≤ lo) : Ext w0 w' := h.ext0 hE fun k hk => by have : lo ≤ k := hk; omega

/-! ### Lists that are filled from the front -/

/-! ### Boxes and lists of the call's own, apart by their types -/

def oB (s : Sl) (b : Nat) : Prop := s.v.ownBlock = some b

theorem SlR.stepD {α : Type} [RepP α] {D : Nat → Prop} {w w' : World} {s : Sl} {l : List α} {g : Option Nat} (h : SlR D w s l) (hs : Step w w' g) (hD : ∀ b, D b → g ≠ some b) : SlR D w' s l :=
  (h.below.agr fun b hb => hs.block b hb.2 fun he => hD b hb.1 he.symm).weak (fun _ hb _ => hb.1) RepP.pos

/-! ### Answers that hold only where something holds -/

structure AnsG {α : Type} (g : Prop) (x d y : α) (ok : Bool) : Prop where
  ok : ok = true ↔ g
  val : g → y = x
  non : ¬ g → y = d

theorem AnsG.yes {α : Type} {g : Prop} {x d : α} (h : g) : AnsG g x d x true := ⟨by simp [h], fun _ => rfl, fun hn => absurd h hn⟩
theorem AnsG.no {α : Type} {g : Prop} {x d : α} (h : ¬ g) : AnsG g x d d false := ⟨by simp [h], fun hg => absurd hg h, fun _ => rfl⟩
theorem AnsG.eq {α : Type} {g : Prop} {x d y y' : α} {ok ok' : Bool} (h : AnsG g x d y ok) (h' : AnsG g x d y' ok') : y = y' ∧ ok = ok' := by
  constructor
  · by_cases hg : g
    · rw [h.val hg, h'.val hg]
    · rw [h.non hg, h'.non hg]
  · rw [Bool.eq_iff_iff, h.ok, h'.ok]

end Go.GX
end

section
/- The laws' marks: what they write into copies and answers, and what they look for again. -/
namespace Go.Proofs.YtaeledhbkdakcaaGreatDoor
open Go.GX Go.RowKit
set_option maxRecDepth 100000

theorem markIntS_ok {w : World} {base : Nat} {s : Sl} {l : List Int} (h : OwnL w base T.t_int s l) (k : Int) (h0 : 0 ≤ k) (h1 : k ≤ 1152921504606846976) (hl : l.length ≤ 1048576) :
    Calls Tryz.prog F.l_markIntS #[s.v, .int .i64 k] w (Ret [.at (.int .i64)] fun (r : Int) w' => r = k + l.length ∧ OwnL w' base T.t_int s (marks k l.length) ∧ Step w w' s.v.ownBlock) := by
  refine C_l_markIntS ?_
  unfold V_l_markIntS
  rw [h.1]
  refine ⟨IN2 l.length fun i r w' => r = k + i ∧ OwnL w' base T.t_int s (marks k i ++ l.drop i) ∧ Step w w' s.v.ownBlock, MN2 l.length, IN2_zero ⟨by simp, by simpa [marks] using h, Step.refl _ _⟩, ?_⟩
  rintro _ _ w1 ⟨i, rfl, hi, rfl, hO, hs⟩
  intros
  refine cond_dec (fun hlt => ?_) (fun hge => ?_)
  · have hi' : i < l.length := by omega
    have hml : (marks k i ++ l.drop i).length = l.length := by rw [List.length_append, marks_length, List.length_drop]; omega
    refine IX_own hO (by rw [hml]; exact hi') rfl fun p hp => ?_
    refine ST_own hO (by rw [hml]; exact hi') hp (k + i) rfl fun w2 hO2 hs2 => ?_
    rw [marks_step hi'] at hO2
    rw [wrap_of (n := k + i + 1) (by omega) (by omega)]
    exact IN2_next (by omega) hi' ⟨by omega, hO2, hs.trans hs2⟩
  · have : i = l.length := by omega
    subst this
    exact ⟨rfl, by simpa using hO, hs⟩

theorem heldIntS_ok {w : World} {s : Sl} {n : Nat} (k : Int) (h : R w s (marks k n)) (h0 : 0 ≤ k) (h1 : k ≤ 1152921504606846976) (hl : n ≤ 1048576) :
    Calls Tryz.prog F.l_heldIntS #[s.v, .int .i64 k] w (Ret [.at (.int .i64)] fun (r : Int) w' => r = k + n ∧ w = w') := by
  refine C_l_heldIntS ?_
  unfold V_l_heldIntS
  rw [h.len, marks_length]
  refine ⟨IN2 n fun i r w' => r = k + i ∧ w = w', MN2 n, IN2_zero ⟨by simp, rfl⟩, ?_⟩
  rintro _ _ w1 ⟨i, rfl, hi, rfl, rfl⟩
  intros
  refine cond_dec (fun hlt => ?_) (fun hge => ?_)
  · have hi' : i < (marks k n).length := by rw [marks_length]; omega
    refine h.ixI hi' fun p _ hc => LD_int hc ?_
    rw [marks_get]
    refine cond_ne (fun hne => absurd rfl hne) (fun _ => ?_)
    rw [wrap_of (n := k + i + 1) (by omega) (by omega)]
    exact IN2_next (by omega) (by omega) ⟨by omega, rfl⟩
  · have : i = n := by omega
    subst this
    exact ⟨rfl, rfl⟩

theorem markIntS_wr {w : World} {s : Sl} (h : Wr w s 1) (k : Int) (h0 : 0 ≤ k) (h1 : k ≤ 1152921504606846976) (hl : s.len ≤ 1048576) :
    Calls Tryz.prog F.l_markIntS #[s.v, .int .i64 k] w (Ret [.at (.int .i64)] fun (r : Int) w' => r = k + s.len ∧ Shp w w' ∧ Chg w w' (blkOf s)) := by
  refine C_l_markIntS ?_
  unfold V_l_markIntS
  refine ⟨IN2 s.len fun i r w' => r = k + i ∧ Shp w w' ∧ Chg w w' (blkOf s), MN2 s.len, IN2_zero ⟨by simp, Shp.refl _, Chg.refl _ _⟩, ?_⟩
  rintro _ _ w1 ⟨i, rfl, hi, rfl, hS, hC⟩
  intros
  refine cond_dec (fun hlt => ?_) (fun hge => ?_)
  · have hi' : i < s.len := by omega
    refine IX_wr (h.shp hS) (by decide) hi' fun a ha => ?_
    refine ST_wr1 (i := i) (h.shp hS) ha (by rw [add_add]; simp) (by omega) rfl fun w2 hS2 hC2 _ => ?_
    rw [wrap_of (n := k + i + 1) (by omega) (by omega)]
    exact IN2_next (by omega) hi' ⟨by omega, hS.trans hS2, hC.trans hC2⟩
  · have : i = s.len := by omega
    subst this
    exact ⟨rfl, hS, hC⟩

/-- A slice of numbers that may be marked: its blocks lie between two bounds. -/
structure MInt (w : World) (s : Sl) (lo hi : Nat) : Prop where
  wr : Wr w s 1
  len : s.len ≤ 1048576
  blk : ∀ b, blkOf s b → lo ≤ b ∧ b < hi

theorem MInt.shp {w w' : World} {s : Sl} {lo hi : Nat} (h : MInt w s lo hi) (hs : Shp w w') : MInt w' s lo hi := ⟨h.wr.shp hs, h.len, h.blk⟩
theorem MInt.ext {w w' : World} {s : Sl} {lo hi : Nat} (h : MInt w s lo hi) (hE : Ext w w') : MInt w' s lo hi := h.shp (Shp.ext hE)

theorem blkOf_own {α : Type} [Flat α] {w : World} {base : Nat} {e : TypeId} {s : Sl} {l : List α} (h : OwnL w base e s l) {b : Nat} (hb : blkOf s b) : s.v.ownBlock = some b := by
  obtain ⟨a, ha, rfl⟩ := hb
  rcases h.2.2 with ⟨hv, _⟩ | ⟨g, cap, cur, hv, _⟩
  · simp [Sl.v] at hv; rw [ha] at hv; cases hv.1
  · simp [Sl.v] at hv
    rw [ha] at hv
    simp [Sl.v, ha, Value.ownBlock]

theorem mint_of {w : World} {base : Nat} {s : Sl} {l : List Int} (h : OwnL w base T.t_int s l) (hl : l.length ≤ 1048576) : MInt w s base w.heap.size :=
  ⟨h.wr, by rw [h.1]; exact hl, fun b hb => h.blk b (blkOf_own h hb)⟩

/-- A slice of slices of numbers that may be marked. -/
structure MIntSS (w : World) (s : Sl) (lo hi : Nat) : Prop where
  ex : ∃ ss : List Sl, OwnL w lo T.t_sl_int s ss ∧ ss.length ≤ 1048576 ∧ ∀ r ∈ ss, MInt w r lo hi ∧ ∀ b, blkOf r b → s.v.ownBlock ≠ some b


/-! ### Answers that are lists -/

/-- An answer of the call's own: its blocks lie from base on. -/
structure OutL (base : Nat) (w : World) (s : Sl) (l : List Int) : Prop where
  own : OwnL w base T.t_int s l
  i64 : ∀ x ∈ l, I64 x
  small : l.length ≤ 1048576

theorem OutL.rep {base : Nat} {w : World} {s : Sl} {l : List Int} (h : OutL base w s l) : R w s l := (h.own.rep h.i64).any
theorem OutL.ext {base : Nat} {w w' : World} {s : Sl} {l : List Int} (h : OutL base w s l) (hE : Ext w w') : OutL base w' s l := ⟨h.own.ext hE, h.i64, h.small⟩
theorem OutL.chgR {base lo hi : Nat} {w w' : World} {s : Sl} {l : List Int} (h : OutL base w s l) (hC : Chg w w' (fun b => lo ≤ b ∧ b < hi)) (hh : hi ≤ base) : OutL base w' s l :=
  ⟨h.own.chg hC fun b hb hD => by have := (h.own.blk b hb).1; have := hD.2; omega, h.i64, h.small⟩
theorem OutL.nil (base : Nat) (w : World) : OutL base w ⟨none, 0, 0⟩ [] := ⟨OwnL.nil _ _ _, by simp, by simp⟩
theorem OutL.low {base b : Nat} {w : World} {s : Sl} {l : List Int} (h : OutL base w s l) (hb : b ≤ base) : OutL b w s l := ⟨h.own.low hb, h.i64, h.small⟩

theorem markIntS_out {base : Nat} {w : World} {s : Sl} {l : List Int} (h : OutL base w s l) (k : Int) (h0 : 0 ≤ k) (h1 : k ≤ 1152921504606846976) :
    Calls Tryz.prog F.l_markIntS #[s.v, .int .i64 k] w (Ret [.at (.int .i64)] fun (r : Int) w' => r = k + l.length ∧ R w' s (marks k l.length) ∧ Chg w w' (fun b => base ≤ b)) := by
  refine call (markIntS_ok h.own k h0 h1 h.small) ?_
  rintro r w' ⟨rfl, hO, hs⟩
  have := h.small
  exact ⟨rfl, (hO.rep (marks_I64 h0 (by omega))).any, .of_step hs fun k hk => (h.own.blk k hk).1⟩

end Go.Proofs.YtaeledhbkdakcaaGreatDoor
end

section
/- Contracts of functions of the library: Mul, Repeat. -/
namespace Go.Proofs.YtaeledhbkdakcaaGreatDoor
open Go.GX Go.RowKit
set_option maxRecDepth 100000

theorem mul_ok {x y : Nat} (h : x * y < 4294967296) (hx : x < 4294967296) (hy : y < 4294967296) (w : World) :
    Calls Tryz.prog F.math_bits_Mul #[.int .u64 x, .int .u64 y] w (Ret [.at (.int .u64), .at (.int .u64)] fun (a b : Int) w' => a = 0 ∧ b = ((x * y : Nat) : Int) ∧ w = w') := by
  refine C_math_bits_Mul ?_
  unfold V_math_bits_Mul
  refine call (Q := fun (a b : Int) w' => a = 0 ∧ b = ((x * y : Nat) : Int) ∧ w = w') (C_math_bits_Mul64 ?_) (fun a b w' h => h)
  unfold V_math_bits_Mul64
  refine ⟨by decide, by decide, by decide, by decide, by decide, ?_⟩
  have s0 : ∀ a : Nat, a < 4294967296 → shrI .u64 a 32 = 0 := fun a ha => by
    have := shr_nat .u64 a 32 (by decide)
    rw [show ((32 : Nat) : Int) = 32 from rfl] at this
    rw [this, Nat.div_eq_of_lt (by simpa using ha)]; rfl
  have wr : ∀ a : Nat, a < 4294967296 → IntKind.u64.wrap (a : Int) = a := fun a ha => wrap_u64 (by omega) (by omega)
  have z0 : shrI .u64 0 32 = 0 := s0 0 (by omega)
  have w0 : IntKind.u64.wrap 0 = 0 := wr 0 (by omega)
  have b0 : bitAnd .u64 0 4294967295 = 0 := bitAnd_u64_low 0 (by omega)
  rw [s0 x hx, s0 y hy, bitAnd_u64_low x hx, bitAnd_u64_low y hy, ← Int.natCast_mul, wr _ h, s0 _ h]
  simp only [Int.zero_mul, Int.mul_zero, w0, z0, b0, Int.add_zero]
  exact ⟨trivial, trivial, trivial⟩

theorem repl_step {n k : Nat} {v : Int} (hk : k ≤ n) (h0 : 0 < k) : ((List.replicate k v ++ List.replicate (n - k) 0).take k ++ (List.replicate k v).take (n - k) ++ (List.replicate k v ++ List.replicate (n - k) 0).drop (k + min (List.replicate k v).length (n - k))) = List.replicate (k + min k (n - k)) v ++ List.replicate (n - (k + min k (n - k))) (0 : Int) := by
  simp only [List.length_replicate]
  rw [List.take_append_of_le_length (by simp), List.take_replicate, Nat.min_self, List.take_replicate, List.drop_append, List.drop_eq_nil_of_le (by simp), List.nil_append, List.drop_replicate, List.length_replicate, List.replicate_append_replicate]
  congr 2
  · omega
  · omega

theorem repeat_ok {w : World} {s : Sl} {v : Int} (h : R w s [v]) (hv : I64 v) {n : Nat} (hn : n ≤ 1048576) :
    Calls Tryz.prog F.slices_Repeat_sl_int_int #[s.v, .int .i64 n] w (Ret [.at .sl] fun (r : Sl) w' => Ext w w' ∧ OwnL w' w.heap.size T.t_int r (List.replicate n v)) := by
  refine C_slices_Repeat_sl_int_int ?_
  unfold V_slices_Repeat_sl_int_int
  refine cond_df (by omega) ?_
  have hsl : s.len = 1 := h.len
  rw [hsl, wrap_u64 (by omega) (by omega), wrap_u64 (by omega) (by omega)]
  refine call (mul_ok (x := 1) (y := n) (by omega) (by omega) (by omega) w) ?_
  rintro a b _ ⟨rfl, rfl, rfl⟩
  refine cond_df (by omega) ?_
  refine cond_df (by omega) ?_
  unfold V_slices_Repeat_sl_int_int_k2
  rw [Nat.one_mul, wrap_of (by omega) (by omega)]
  refine RUN_make (α := Int) slt_int (d := 0) rfl (by omega) (by unfold maxLen; omega) fun r w1 hE1 hO1 => ?_
  have hrl : r.len = n := by rw [hO1.1]; simp
  refine RUN_copy (α := Int) rfl slt_int hO1 (off := 0) (d := r) (fun _ => by cases r.a <;> simp [add_zero']) (by simp [hrl]) (h.ext hE1) fun w2 hO2 hs2 _ => ?_
  have hE2 := hs2.ext0 hE1 (fun k hk => (hO1.blk k hk).1)
  refine ⟨fun x w' => ∃ k : Nat, x = k ∧ k ≤ n ∧ (0 < n → 0 < k) ∧ Ext w w' ∧ OwnL w' w.heap.size T.t_int r (List.replicate k v ++ List.replicate (n - k) 0), fun x _ => n - x.toNat, ⟨min 1 n, ?_, by omega, by omega, hE2, ?_⟩, ?_⟩
  · simp [hrl]
  · rcases Nat.eq_zero_or_pos n with h0 | h0
    · subst h0
      simpa [hrl] using hO2
    · have e1 : min 1 n = 1 := by omega
      rw [e1]
      have e2 : (List.take 0 (List.replicate n (0 : Int)) ++ List.take r.len [v] ++ List.drop (0 + min [v].length r.len) (List.replicate n 0)) = List.replicate 1 v ++ List.replicate (n - 1) 0 := by
        rw [hrl]
        simp [List.take_of_length_le (l := [v]) (i := n) (by simp; omega), e1]
      rw [← e2]; exact hO2
  rintro x w3 ⟨k, rfl, hk, hpos, hE3, hO3⟩
  intros
  refine cond_dec (fun hlt => ?_) (fun hge => ?_)
  · have hkn : k < n := by omega
    have hk0 : 0 < k := hpos (by omega)
    intro w4 hE4 hheap
    refine ⟨fun _ => True, ?_⟩
    have hcap : r.len ≤ r.cap := ((hO3.rep (by intro x hx; rcases List.mem_append.1 hx with h1 | h1 <;> rw [List.eq_of_mem_replicate h1]; exact hv; exact ⟨by decide, by decide⟩)).2.1).1
    refine SLC_from hcap (by omega) fun d hdl hda => ⟨Chg.refl _ _, ?_⟩
    refine SLC_to (by omega) fun y hyl hya hyc => ⟨Chg.refl _ _, ?_⟩
    have hO4 := hO3.ext hE4
    have hR4 := hO4.rep (by intro x hx; rcases List.mem_append.1 hx with h1 | h1 <;> rw [List.eq_of_mem_replicate h1]; exact hv; exact ⟨by decide, by decide⟩)
    have hRy : R w4 y (List.replicate k v) := by
      refine ⟨by simp [hyl], ⟨by omega, by have := hR4.2.1.2; omega⟩, fun i x hx => ?_⟩
      obtain ⟨a, cs, h1, _, h3, h4⟩ := hR4.2.2 i x (by
        obtain ⟨hi, _⟩ := List.getElem?_eq_some_iff.1 hx
        rw [List.getElem?_append_left hi]; exact hx)
      exact ⟨a, cs, by rw [hya]; exact h1, trivial, h3, h4⟩
    refine RUN_copy (α := Int) rfl slt_int hO4 (off := k) (d := d) (fun hd0 => by rw [hda (by omega)]; simp) (by simp; omega) hRy fun w5 hO5 hs5 _ => ?_
    rw [hdl, hrl] at hO5 ⊢
    rw [repl_step hk hk0] at hO5
    have hmin : min (List.replicate k v).length (n - k) = min k (n - k) := by simp
    refine ⟨.of_step hs5 fun _ _ => trivial, .of_step hs5 fun _ _ => trivial, ?_⟩
    rw [hmin, wrap_of (by omega) (by omega)]
    exact ⟨⟨k + min k (n - k), by omega, by omega, by omega, hs5.ext0 (hE3.trans hE4) (fun b hb => (hO4.blk b hb).1), hO5⟩, by show n - (_ : Int).toNat < n - (_ : Int).toNat; omega⟩
  · have : k = n := by omega
    subst this
    exact ⟨hE3, by simpa using hO3⟩

theorem l1Own_ok {w : World} {s : Sl} {l : List Int} (h : R w s l) (hl : l.length ≤ 1048576) :
    Calls Tryz.prog F.s_l1Own #[s.v] w (Ret [.at .sl] fun (r : Sl) w' => Ext w w' ∧ OwnL w' w.heap.size T.t_int r l) := by
  refine C_s_l1Own ?_
  unfold V_s_l1Own
  refine RUN_lit0 (α := Int) slt_int fun r w1 hE1 hO1 => ?_
  refine RUN_append (α := Int) slt_int hO1 hE1.size (h.ext hE1) (by simp; omega) (by simp [maxLen]; omega) fun r' w2 hO2 hs => ?_
  exact ⟨hs.ext0 hE1 (fun k hk => (hO1.blk k hk).1), by simpa using hO2⟩

end Go.Proofs.YtaeledhbkdakcaaGreatDoor
end

section
/- The least number that is free, and the rounds that drop a colour: DropColour, both sides. -/
namespace Go.Proofs.YtaeledhbkdakcaaGreatDoor
open Go.GX Go.RowKit
set_option maxRecDepth 100000

/-- The least number that is not in a list. -/
def mex (l : List Int) : Nat := ((List.range (l.length + 1)).find? fun (u : Nat) => !l.contains (u : Int)).getD 0

theorem mex_le (l : List Int) : mex l ≤ l.length := by
  unfold mex
  cases h : (List.range (l.length + 1)).find? (fun (u : Nat) => !l.contains (u : Int)) with
  | none => simp
  | some c => have := List.mem_of_find?_eq_some h; simp at this; simp; omega

theorem near_len {n : Net} (hg : Good n) (l : List Int) {v : Nat} (hv : v < n.ends.length) : (nearOf n.ends l v).length ≤ 6 := by
  rw [near_adj, List.length_map, adj_len hg hv]; exact hg.deg hv

/-! ### Dropping -/

def dropAt (E : Ends) (l : List Int) (c : Int) (v : Nat) : Int := if l.getD v 0 = c then mex (nearOf E l v) else l.getD v 0
def dropOf (E : Ends) (l : List Int) (c : Int) : List Int := (List.range l.length).map (dropAt E l c)

theorem dropOf_len (E : Ends) (l : List Int) (c : Int) : (dropOf E l c).length = l.length := by simp [dropOf]

theorem dropAt_I64 {n : Net} (hg : Good n) {l : List Int} (hl : ∀ x ∈ l, I64 x) (hlen : l.length = n.ends.length) (c : Int) : ∀ v < l.length, I64 (dropAt n.ends l c v) := by
  intro v hv
  unfold dropAt
  split
  · have := mex_le (nearOf n.ends l v)
    have := near_len hg l (v := v) (by omega)
    unfold I64; omega
  · simp [hv]; exact hl _ (List.getElem_mem hv)

theorem dropOf_I64 {n : Net} (hg : Good n) {l : List Int} (hl : ∀ x ∈ l, I64 x) (hlen : l.length = n.ends.length) (c : Int) : ∀ x ∈ dropOf n.ends l c, I64 x := by
  intro x hx
  obtain ⟨v, hv, rfl⟩ := List.mem_map.1 hx
  exact dropAt_I64 hg hl hlen c v (by simpa using hv)

structure DropAsked (n : Net) (l : List Int) (c : Int) : Prop where
  good : Good n
  proper : Proper n l
  whole : inR c 0 1000000000000 = true

end Go.Proofs.YtaeledhbkdakcaaGreatDoor
end

section
/- Degrees, greatest numbers, palettes; GreedyReduce, both sides. -/
namespace Go.Proofs.YtaeledhbkdakcaaGreatDoor
open Go.GX Go.RowKit
set_option maxRecDepth 100000

/-! ### The greatest number -/

def most2 (a b : Int) : Int := if a > b then a else b
def mostOf (l : List Int) : Int := l.foldl most2 0

theorem mostOf_snoc (l : List Int) (x : Int) : mostOf (l ++ [x]) = most2 (mostOf l) x := by simp [mostOf]

theorem mostOf_spec (l : List Int) : 0 ≤ mostOf l ∧ (∀ x ∈ l, x ≤ mostOf l) ∧ (mostOf l = 0 ∨ mostOf l ∈ l) := by
  unfold mostOf
  have : ∀ (l : List Int) (m : Int), 0 ≤ m → 0 ≤ l.foldl most2 m ∧ m ≤ l.foldl most2 m ∧ (∀ x ∈ l, x ≤ l.foldl most2 m) ∧ (l.foldl most2 m = m ∨ l.foldl most2 m ∈ l) := by
    intro l
    induction l with
    | nil => intro m hm; simp; exact hm
    | cons y r ih =>
      intro m hm
      have hy : m ≤ most2 m y ∧ y ≤ most2 m y ∧ (most2 m y = m ∨ most2 m y = y) := by
        unfold most2; split <;> omega
      obtain ⟨h1, h2, h3, h4⟩ := ih (most2 m y) (by omega)
      rw [List.foldl_cons]
      refine ⟨h1, by omega, fun x hx => ?_, ?_⟩
      · rcases List.mem_cons.1 hx with rfl | hx
        · omega
        · exact h3 x hx
      · rcases h4 with h4 | h4
        · rcases hy.2.2 with h5 | h5
          · left; rw [h4, h5]
          · right; rw [h4, h5]; simp
        · right; exact List.mem_cons_of_mem _ h4
  obtain ⟨h1, _, h3, h4⟩ := this l 0 (by omega)
  exact ⟨h1, h3, h4⟩

theorem l1Most_ok (a b : Int) (w : World) : Calls Tryz.prog F.s_l1Most #[.int .i64 a, .int .i64 b] w (Ret [.at (.int .i64)] fun (r : Int) w' => r = most2 a b ∧ w = w') := by
  refine C_s_l1Most ?_
  unfold V_s_l1Most most2
  exact cond_dec (fun h => ⟨by rw [if_pos h], rfl⟩) (fun h => ⟨by rw [if_neg h], rfl⟩)

theorem max_ok {w : World} {s : Sl} {l : List Int} (h : R w s l) (h0 : 0 < l.length) (hnn : ∀ x ∈ l, 0 ≤ x) :
    Calls Tryz.prog F.slices_Max_sl_int_int #[s.v] w (Ret [.at (.int .i64)] fun (r : Int) w' => r = mostOf l ∧ w = w') := by
  refine C_slices_Max_sl_int_int ?_
  unfold V_slices_Max_sl_int_int
  rw [h.len]
  have hle := h.le
  refine cond_df (by omega) ?_
  refine h.ixI (i := 0) h0 fun q _ hc => LD_int hc ?_
  refine ⟨fun m x w' => w = w' ∧ ∃ i : Nat, x = i ∧ 1 ≤ i ∧ i ≤ l.length ∧ m = mostOf (l.take i), fun _ x _ => l.length - x.toNat, ⟨rfl, 1, rfl, by omega, by omega, ?_⟩, ?_⟩
  · have e1 : l.take 1 = [l[0]] := by
      have := List.take_succ_eq_append_getElem (l := l) (i := 0) h0
      simpa using this
    have := hnn l[0] (List.getElem_mem h0)
    rw [e1]
    simp only [mostOf, List.foldl_cons, List.foldl_nil, most2]
    split <;> omega
  rintro _ _ _ ⟨rfl, i, rfl, h1, hi, rfl⟩
  intros
  refine cond_dec (fun hlt => ?_) (fun hge => ⟨?_, rfl⟩)
  · have hi' : i < l.length := by omega
    refine h.ixI hi' fun q _ hc => LD_int hc (RUN_max ?_)
    rw [wrap_of (by omega) (by omega)]
    refine ⟨⟨rfl, i + 1, by omega, by omega, by omega, ?_⟩, by show l.length - (_ : Int).toNat < l.length - (_ : Int).toNat; omega⟩
    rw [List.take_succ_eq_append_getElem hi', mostOf_snoc]
    unfold most2
    split <;> split <;> omega
  · have : i = l.length := by omega
    subst this
    rw [List.take_length]

/-! ### Degrees -/

def degsOf (E : Ends) : List Int := E.map fun r => (r.length : Int)

/-! ### What is asked -/

structure PalAsked (n : Net) (l : List Int) (k a : Int) : Prop where
  good : Good n
  pal : 1 ≤ k ∧ k ≤ 1000000000000
  bound : 0 ≤ a ∧ a ≤ 6
  proper : Proper n l
  all : AllIn l 0 (k - 1)
  degs : mostOf (degsOf n.ends) ≤ a

theorem PalAsked.deg {n : Net} {l : List Int} {k a : Int} (h : PalAsked n l k a) {v : Nat} (hv : v < n.ends.length) : (n.ends[v].length : Int) ≤ a := by
  have := (mostOf_spec (degsOf n.ends)).2.1 (n.ends[v].length : Int) (List.mem_map.2 ⟨_, List.getElem_mem hv, rfl⟩)
  have := h.degs
  omega

/-! ### Dropping the greatest colours -/

/-- What a list of colours must be for the rounds. -/
structure ColsOk (n : Net) (a : Int) (l : List Int) : Prop where
  good : Good n
  len : l.length = n.ends.length
  nn : ∀ x ∈ l, 0 ≤ x
  i64 : ∀ x ∈ l, I64 x
  deg : ∀ v, (hv : v < n.ends.length) → (n.ends[v].length : Int) ≤ a

theorem dropOf_mem {n : Net} {a : Int} {l : List Int} (h : ColsOk n a l) {c : Int} : ∀ x ∈ dropOf n.ends l c, (0 ≤ x ∧ x ≤ a) ∨ (x ∈ l ∧ x ≠ c) := fun x hx => by
  obtain ⟨v, hv, rfl⟩ := List.mem_map.1 hx
  have hv' : v < l.length := by simpa using hv
  have hve : v < n.ends.length := by rw [← h.len]; exact hv'
  unfold dropAt
  split
  · left
    have h1 := mex_le (nearOf n.ends l v)
    have h2 : (nearOf n.ends l v).length = n.ends[v].length := by rw [near_adj, List.length_map, adj_len h.good hve]
    have := h.deg v hve
    omega
  · rename_i hne
    right
    simp [hv'] at hne ⊢
    exact hne

theorem ColsOk.drop {n : Net} {a : Int} {l : List Int} (h : ColsOk n a l) (c : Int) : ColsOk n a (dropOf n.ends l c) :=
  ⟨h.good, by rw [dropOf_len]; exact h.len, fun x hx => by
    rcases dropOf_mem h x hx with h1 | h1
    · exact h1.1
    · exact h.nn x h1.1, dropOf_I64 h.good h.i64 h.len c, h.deg⟩

theorem PalAsked.cols {n : Net} {l : List Int} {k a : Int} (h : PalAsked n l k a) (hi : ∀ x ∈ l, I64 x) : ColsOk n a l :=
  ⟨h.good, h.proper.1, fun x hx => (h.all x hx).1, hi, fun v hv => h.deg hv⟩

end Go.Proofs.YtaeledhbkdakcaaGreatDoor
end

section
/- Matchings: both sides' tests, and the law IsMatching. -/
namespace Go.Proofs.YtaeledhbkdakcaaGreatDoor
open Go.GX Go.RowKit
set_option maxRecDepth 100000

/-- Node v and its mate agree. -/
def MAt (E : Ends) (m : List Int) (v : Nat) : Prop :=
  ∀ x, m[v]? = some x → x = -1 ∨ ∃ e, portZ E v x = some e ∧ e.1 ≠ v ∧ ∃ u : Nat, e.1 = u ∧ m[u]? = some e.2

def MatchOk (E : Ends) (m : List Int) : Prop := m.length = E.length ∧ ∀ v < m.length, MAt E m v

end Go.Proofs.YtaeledhbkdakcaaGreatDoor
end

section
/- Sets of nodes and matchings: both sides' tests of independence, covers, maximality; sizes of matchings. -/
namespace Go.Proofs.YtaeledhbkdakcaaGreatDoor
open Go.GX Go.RowKit
set_option maxRecDepth 100000

structure SetOk (n : Net) (l : List Int) : Prop where
  good : Good n
  rising : Rising l 0 (n.ends.length - 1)

theorem SetOk.node {n : Net} {l : List Int} (h : SetOk n l) : ∀ x ∈ l, ∃ u : Nat, x = u ∧ u < n.ends.length := by
  intro x hx
  have := h.rising.1 x hx
  exact ⟨x.toNat, by omega, by omega⟩

/-! ### Independent sets -/

/-- No neighbour of v lies in the set. -/
def Apart (E : Ends) (l : List Int) (v : Nat) : Prop := ∀ x ∈ adjOf E v, x ∉ l

/-! ### Covers -/

end Go.Proofs.YtaeledhbkdakcaaGreatDoor
end

section
/- Maximal matchings and maximal independent sets; sizes of matchings. -/
namespace Go.Proofs.YtaeledhbkdakcaaGreatDoor
open Go.GX Go.RowKit
set_option maxRecDepth 100000

/-! ### Matchings that are asked rightly, and their size -/

structure MatchAsked (n : Net) (m : List Int) : Prop where
  good : Good n
  is : MatchOk n.ends m

/-- An answer that is a number, and whether it was asked rightly. -/
def AnsI (g : Prop) (k : Int) (x : Int) (ok : Bool) : Prop := (ok = true ↔ g) ∧ (g → x = k) ∧ (¬ g → x = 0)

theorem AnsI.eq {g : Prop} {k x x' : Int} {ok ok' : Bool} (h : AnsI g k x ok) (h' : AnsI g k x' ok') : x = x' ∧ ok = ok' := by
  refine ⟨?_, Bool.eq_iff_iff.2 (h.1.trans h'.1.symm)⟩
  by_cases hg : g
  · rw [h.2.1 hg, h'.2.1 hg]
  · rw [h.2.2 hg, h'.2.2 hg]

theorem AnsI.no {g : Prop} {k : Int} (h : ¬ g) : AnsI g k 0 false := ⟨by simp [h], fun h1 => absurd h1 h, fun _ => rfl⟩
theorem AnsI.mk {g : Prop} {k x : Int} (h : g) (hx : x = k) : AnsI g k x true := ⟨by simp [h], fun _ => hx, fun h1 => absurd h h1⟩

/-! ### Maximal matchings -/

/-- An edge that could be added: two nodes, both free. -/
def FreeEdge (l : List Int) (q : Edge) : Prop := q.1 ≠ q.2.2.1 ∧ l.getD q.1.toNat 0 < 0 ∧ l.getD q.2.2.1.toNat 0 < 0
instance (l : List Int) (q : Edge) : Decidable (FreeEdge l q) := by unfold FreeEdge; exact inferInstance
def Maximal (n : Net) (l : List Int) : Prop := ∀ q ∈ edgesOf n.ends, ¬ FreeEdge l q

/-! ### Maximal independent sets -/

end Go.Proofs.YtaeledhbkdakcaaGreatDoor
end

section
/- Orders of nodes; sets that are kept in order; GreedyIndependent, both sides. -/
namespace Go.Proofs.YtaeledhbkdakcaaGreatDoor
open Go.GX Go.RowKit
set_option maxRecDepth 100000

theorem slt_bool : SlT Tryz.prog T.t_sl_bool T.t_bool 1 1 (.bool false) := ⟨by kernel_rfl, by kernel_rfl, rfl, by decide⟩

structure PermOk (l : List Int) (k : Nat) : Prop where
  len : l.length = k
  all : AllIn l 0 (k - 1)
  nodup : l.Nodup

theorem PermOk.node {l : List Int} {k : Nat} (h : PermOk l k) : ∀ x ∈ l, ∃ u : Nat, x = u ∧ u < k := fun x hx => by
  have := h.all x hx
  exact ⟨x.toNat, by omega, by omega⟩

/-! ### Lists in order -/

theorem sorted_ext : ∀ {a b : List Int}, a.Pairwise (· < ·) → b.Pairwise (· < ·) → (∀ x, x ∈ a ↔ x ∈ b) → a = b
  | [], [], _, _, _ => rfl
  | [], y :: b, _, _, h => by have := (h y).2 (by simp); cases this
  | x :: a, [], _, _, h => by have := (h x).1 (by simp); cases this
  | x :: a, y :: b, ha, hb, h => by
    obtain ⟨ha1, ha2⟩ := List.pairwise_cons.1 ha
    obtain ⟨hb1, hb2⟩ := List.pairwise_cons.1 hb
    have hxy : x = y := by
      have h1 := (h x).1 (by simp)
      have h2 := (h y).2 (by simp)
      rcases List.mem_cons.1 h1 with h3 | h3
      · exact h3
      · rcases List.mem_cons.1 h2 with h4 | h4
        · exact h4.symm
        · have := hb1 x h3; have := ha1 y h4; omega
    subst hxy
    rw [sorted_ext ha2 hb2 fun z => ?_]
    constructor
    · intro hz
      rcases List.mem_cons.1 ((h z).1 (by simp [hz])) with h3 | h3
      · have := ha1 z hz; omega
      · exact h3
    · intro hz
      rcases List.mem_cons.1 ((h z).2 (by simp [hz])) with h3 | h3
      · have := hb1 z hz; omega
      · exact h3

theorem eq_sortI {m S : List Int} (hm : m.Pairwise (· < ·)) (hS : S.Nodup) (h : ∀ x, x ∈ m ↔ x ∈ S) : m = sortI S :=
  sorted_ext hm (incr_iff_pairwise.1 (incr_sortI.2 hS)) fun x => (h x).trans (sortI_perm S).mem_iff.symm

/-- A slice's last elements. -/
theorem slr_drop {α : Type} [RepP α] {D : Nat → Prop} {w : World} {s : Sl} {l : List α} (h : SlR D w s l) {i : Nat} (hi : i ≤ l.length) {sz : Nat} (hsz : sz = Rep.sz α) {K : Sl → Prop} (hk : ∀ s', SlR D w s' (l.drop i) → K s') : SLC s (some (i : Int)) none sz K := by
  subst hsz
  have h1 := h.1
  have h2 := h.2.1
  refine SLC_from' h2.1 (by omega) fun d hd hc ha => hk d ⟨by simp; omega, by omega, fun j x hx => ?_⟩
  rw [List.getElem?_drop] at hx
  have hlt := (List.getElem?_eq_some_iff.1 hx).1
  obtain ⟨a, cs, e1, e2, e3, e4⟩ := h.2.2 (i + j) x hx
  refine ⟨a.add (i * Rep.sz α), cs, by rw [ha (by omega), e1]; rfl, by rw [add_block]; exact e2, e3, fun t v ht => ?_⟩
  rw [add_add, show i * Rep.sz α + (j * Rep.sz α + t) = (i + j) * Rep.sz α + t by rw [Nat.add_mul]; omega]
  exact e4 t v ht

theorem l1Put_D {D : Nat → Prop} {w : World} {s : Sl} {l : List Int} (h : SlR D w s l) (hl : l.length ≤ 100000) (hsorted : l.Pairwise (· < ·)) {n : Int} (hn : I64 n) :
    Calls Tryz.prog F.s_l1Put #[s.v, .int .i64 n] w (Ret [.at .sl] fun (r : Sl) w' => Ext w w' ∧ ∃ m, SlR (fun b => D b ∨ w.heap.size ≤ b) w' r m ∧ m.Pairwise (· < ·) ∧ (∀ x, x ∈ m ↔ x ∈ l ∨ x = n) ∧ m.length ≤ l.length + 1) := by
  refine C_s_l1Put ?_
  unfold V_s_l1Put
  rw [h.len]
  have hfin : ∀ k : Nat, k ≤ l.length → (∀ x ∈ l.take k, x < n) → (∀ x ∈ l.drop k, n ≤ x) → V_s_l1Put_k1 s n (fun (r : Sl) w' => Ext w w' ∧ ∃ m, SlR (fun b => D b ∨ w.heap.size ≤ b) w' r m ∧ m.Pairwise (· < ·) ∧ (∀ x, x ∈ m ↔ x ∈ l ∨ x = n) ∧ m.length ≤ l.length + 1) (k : Int) w := by
    intro k hk hlo hhi
    unfold V_s_l1Put_k1
    have hput : n ∉ l → V_s_l1Put_k4 s n (fun (r : Sl) w' => Ext w w' ∧ ∃ m, SlR (fun b => D b ∨ w.heap.size ≤ b) w' r m ∧ m.Pairwise (· < ·) ∧ (∀ x, x ∈ m ↔ x ∈ l ∨ x = n) ∧ m.length ≤ l.length + 1) (k : Int) w := by
      intro hnl
      unfold V_s_l1Put_k4
      refine RUN_lit0 (α := Int) slt_int fun r1 w1 hE1 hO1 => ?_
      have h1 := h.ext hE1
      refine h1.take hk rfl fun s1 hs1 => ?_
      have htl : (l.take k).length ≤ 100000 := by simp; omega
      have hdl : (l.drop k).length ≤ 100000 := by simp; omega
      refine RUN_append (α := Int) slt_int hO1 hE1.size_le hs1 (by simp; omega) (by simp [maxLen]; omega) fun r2 w2 hO2 hs2 => ?_
      have hE2 := hs2.ext0 hE1 (fun k hk => (hO1.blk k hk).1)
      refine RUN_lit1 (α := Int) slt_int n rfl (by decide) fun r3 w3 hE3 hO3 => ?_
      have hO2' := hO2.ext hE3
      refine RUN_append (α := Int) slt_int hO2' (hE2.trans hE3).size_le (hO3.rep (by intro z hz; simp at hz; subst hz; exact hn)).any (by simp; omega) (by simp [maxLen]; omega) fun r4 w4 hO4 hs4 => ?_
      have hE4 := hs4.ext0 (hE2.trans hE3) (fun k hk => (hO2'.blk k hk).1)
      refine slr_drop (h.ext hE4) hk rfl fun s5 hs5 => ?_
      refine RUN_append (α := Int) slt_int hO4 hE4.size_le hs5 (by simp; omega) (by simp [maxLen]; omega) fun r6 w6 hO6 hs6 => ?_
      have hE6 := hs6.ext0 hE4 (fun k hk => (hO4.blk k hk).1)
      refine ⟨hE6, _, (hO6.rep ?_).weak (fun b hb _ => .inr hb) RepP.pos, ?_, ?_, ?_⟩
      · intro x hx
        simp only [List.mem_append, List.mem_singleton, List.not_mem_nil, false_or] at hx
        rcases hx with (h7 | h7) | h7
        · exact flat_ok h.any x (List.mem_of_mem_take h7)
        · rw [h7]; exact hn
        · exact flat_ok h.any x (List.mem_of_mem_drop h7)
      · have hp := hsorted
        rw [← List.take_append_drop k l, List.pairwise_append] at hp
        simp only [List.nil_append, List.append_assoc]
        rw [List.pairwise_append]
        refine ⟨hp.1, ?_, ?_⟩
        · simp only [List.singleton_append, List.pairwise_cons]
          refine ⟨fun x hx => ?_, hp.2.1⟩
          have h8 := hhi x hx
          have : x ≠ n := fun he => hnl (he ▸ List.mem_of_mem_drop hx)
          omega
        · intro x hx y hy
          simp only [List.singleton_append, List.mem_cons] at hy
          rcases hy with rfl | hy
          · exact hlo x hx
          · exact hp.2.2 x hx y hy
      · intro x
        simp only [List.mem_append, List.mem_singleton, List.not_mem_nil, false_or]
        constructor
        · rintro ((h7 | h7) | h7)
          · exact .inl (List.mem_of_mem_take h7)
          · exact .inr h7
          · exact .inl (List.mem_of_mem_drop h7)
        · rintro (h7 | h7)
          · rw [← List.take_append_drop k l] at h7
            rcases List.mem_append.1 h7 with h8 | h8
            · exact .inl (.inl h8)
            · exact .inr h8
          · exact .inl (.inr h7)
      · simp; omega
    rw [h.len]
    refine cond_dec (fun hlt => ?_) (fun hge => ?_)
    · have hk' : k < l.length := by omega
      refine h.ixI hk' fun q _ hc => LD_int hc ?_
      refine cond_eq (fun he => ?_) (fun hne => hput fun hm => ?_)
      · refine ⟨Ext.refl _, l, h.weak (fun b hb _ => .inl hb) RepP.pos, hsorted, fun x => ⟨.inl, ?_⟩, by omega⟩
        rintro (h7 | h7)
        · exact h7
        · rw [h7, ← he]; exact List.getElem_mem hk'
      · rw [← List.take_append_drop k l] at hm
        rcases List.mem_append.1 hm with h7 | h7
        · have := hlo n h7; omega
        · rw [List.drop_eq_getElem_cons hk'] at h7
          rcases List.mem_cons.1 h7 with h8 | h8
          · exact hne h8.symm
          · have hp := hsorted
            rw [← List.take_append_drop k l, List.pairwise_append] at hp
            have := hp.2.1
            rw [List.drop_eq_getElem_cons hk', List.pairwise_cons] at this
            have h9 := this.1 n h8
            have h10 := hhi l[k] ((List.drop_eq_getElem_cons hk').symm ▸ List.mem_cons_self)
            omega
    · refine hput fun hm => ?_
      have : k = l.length := by omega
      subst this
      have := hlo n (by simpa using hm)
      omega
  refine ⟨IN l.length fun k w' => w = w' ∧ ∀ x ∈ l.take k, x < n, MN l.length, IN_zero ⟨rfl, by simp⟩, ?_⟩
  rintro _ w1 ⟨k, rfl, hk, rfl, hlo⟩
  intros
  refine cond_dec (fun hlt => ?_) (fun hge => ?_)
  · have hk' : k < l.length := by omega
    refine h.ixI hk' fun q _ hc => LD_int hc ?_
    refine cond_dec (fun h1 => IN_next h.le hk' ⟨rfl, fun x hx => ?_⟩) (fun h1 => hfin k hk hlo fun x hx => ?_)
    · rw [List.take_succ_eq_append_getElem hk'] at hx
      rcases List.mem_append.1 hx with h2 | h2
      · exact hlo x h2
      · rw [List.mem_singleton.1 h2]; exact h1
    · rw [List.drop_eq_getElem_cons hk'] at hx
      have hp := hsorted
      rw [← List.take_append_drop k l, List.pairwise_append] at hp
      have := hp.2.1
      rw [List.drop_eq_getElem_cons hk', List.pairwise_cons] at this
      rcases List.mem_cons.1 hx with rfl | h2
      · omega
      · have := this.1 x h2; omega
  · have : k = l.length := by omega
    subst this
    exact hfin _ (Nat.le_refl _) hlo (by simp)

/-! ### The greedy set -/

instance (E : Ends) (l : List Int) (v : Nat) : Decidable (Apart E l v) := by unfold Apart; exact inferInstance

/-- May a node join? -/
def joins (E : Ends) (S : List Int) (v : Int) : Prop := (adjOf E v.toNat).contains v = false ∧ Apart E S v.toNat
instance (E : Ends) (S : List Int) (v : Int) : Decidable (joins E S v) := by unfold joins; exact inferInstance
structure OrderAsked (n : Net) (l : List Int) : Prop where
  good : Good n
  perm : PermOk l n.ends.length

end Go.Proofs.YtaeledhbkdakcaaGreatDoor
end

section
/- Colours of cycles, the program: steps, three colours, marks. -/
namespace Go.Proofs.YtaeledhbkdakcaaGreatDoor
open Go.GX Go.RowKit
set_option maxRecDepth 100000

theorem tmod_nxt {k i : Nat} (hi : i < k) (hk : k ≤ 1000000000) : Int.tmod (IntKind.i64.wrap ((i : Int) + 1)) (k : Int) = ((nxt k i : Nat) : Int) := by
  rw [wrap_of (by omega) (by omega), show ((i : Int) + 1) = ((i + 1 : Nat) : Int) by omega, ← Int.ofNat_tmod]; rfl
theorem tmod_prv {k i : Nat} (hi : i < k) (hk : k ≤ 1000000000) : Int.tmod (IntKind.i64.wrap ((IntKind.i64.wrap ((i : Int) + (k : Int))) - 1)) (k : Int) = ((prv k i : Nat) : Int) := by
  rw [wrap_of (n := (i : Int) + (k : Int)) (by omega) (by omega), wrap_of (by omega) (by omega), show ((i : Int) + (k : Int) - 1) = ((i + k - 1 : Nat) : Int) by omega, ← Int.ofNat_tmod]; rfl

/-- One number more behind the call's own ones. -/
theorem pushI {w0 w1 : World} {out : Sl} {l : List Int} {x : Int} (hO : OwnL w1 w0.heap.size T.t_int out l) (hE : Ext w0 w1) (hx : I64 x) (hl : l.length ≤ 10000000) {K : Sl → World → Prop}
    (hk : ∀ r w', Ext w0 w' → OwnL w' w0.heap.size T.t_int r (l ++ [x]) → K r w') :
    RUN Tryz.prog (.at .sl) (Instr.buildSlice T.t_sl_int 1 #[(0, .int .i64 x)]) w1 fun y w2 => RUN Tryz.prog (.at .sl) (bsem .append #[T.t_sl_int, T.t_sl_int] T.t_sl_int #[out.v, y.v]) w2 K := by
  refine RUN_lit1 (α := Int) slt_int x rfl (by decide) fun y w2 hE2 hO2 => ?_
  have hz1 := hE.size_le
  have hz2 := hE2.size_le
  have hOb := hO.ext hE2
  refine RUN_append (α := Int) slt_int hOb (by omega) (hO2.rep (by intro a ha; rw [List.mem_singleton.1 ha]; exact hx)).any (by simp; omega) (by simp [maxLen]; omega) fun r w3 hO3 hs3 => ?_
  exact hk r w3 (hs3.ext0 (hE.trans hE2) fun k hk => (hOb.blk k hk).1) hO3

theorem small_I64 {l : List Int} {B : Int} (h : Small0 l B) (hB : B ≤ 1000000000) : ∀ x ∈ l, I64 x := fun x hx => by
  have := h x hx
  unfold I64; omega

theorem bit0_if (x j : Nat) : (if x.testBit j then (1 : Int) else 0) = ((bit0 x j : Nat) : Int) := by
  by_cases h : x.testBit j = true
  · rw [if_pos h, (bit0_test x j).2 h]; rfl
  · rw [if_neg h]
    have h1 := bit0_lt x j
    have h2 : bit0 x j ≠ 1 := fun e => h ((bit0_test x j).1 e)
    omega

theorem bitStep_ok {w : World} (g : GT w) {s : Sl} {l : List Int} (h : R w s l) (hp : ProperC l) (hs : Small0 l 1048576) (hl : l.length ≤ 1000) :
    Calls Tryz.prog F.i_bitStep #[s.v] w (Ret [.at .sl] fun (r : Sl) w' => Ext w w' ∧ OwnL w' w.heap.size T.t_int r (stepL l)) := by
  refine C_i_bitStep ?_
  unfold V_i_bitStep
  rw [h.len]
  generalize hf : (fun i => ((stepV (at0 l i).toNat (at0 l (nxt l.length i)).toNat : Nat) : Int)) = f
  have hst : stepL l = mk0 l.length f := by rw [← hf]; rfl
  rw [hst]
  refine ⟨IN2 l.length fun i (out : Sl) w' => Ext w w' ∧ OwnL w' w.heap.size T.t_int out (mk0 i f), MN2 l.length, IN2_zero ⟨Ext.refl _, OwnL.nil _ _ _⟩, ?_⟩
  rintro out _ w1 ⟨i, rfl, hi, hE1, hO1⟩
  intros
  refine cond_dec (fun hlt => ?_) (fun hge => ?_)
  rotate_left
  · have : i = l.length := by omega
    subst this
    exact ⟨hE1, hO1⟩
  have hi' : i < l.length := by omega
  refine (h.ext hE1).ixI hi' fun q _ hc => LD_int hc ⟨by omega, ?_⟩
  rw [tmod_nxt hi' (by omega)]
  have hn := nxt_lt hi'
  refine (h.ext hE1).ixI hn fun q2 _ hc2 => LD_int hc2 ?_
  have a1 := hs _ (at0_mem hi')
  have a2 := hs _ (at0_mem hn)
  have hne := hp i hi'
  rw [← at0_get hi', ← at0_get hn]
  have hfi : f i = ((stepV (at0 l i).toNat (at0 l (nxt l.length i)).toNat : Nat) : Int) := by rw [← hf]
  obtain ⟨x, hx⟩ : ∃ x : Nat, at0 l i = x := ⟨(at0 l i).toNat, by omega⟩
  obtain ⟨y, hy⟩ : ∃ y : Nat, at0 l (nxt l.length i) = y := ⟨(at0 l (nxt l.length i)).toNat, by omega⟩
  simp only [hx, hy] at hfi hne a1 a2 ⊢
  simp only [Int.toNat_natCast] at hfi
  have hxy : x ≠ y := fun e => hne (by rw [e])
  have hx20 : x < 2 ^ 20 := by have : (2 : Nat) ^ 20 = 1048576 := by decide
                               omega
  have hy20 : y < 2 ^ 20 := by have : (2 : Nat) ^ 20 = 1048576 := by decide
                               omega
  have hxor : x ^^^ y < 2 ^ 20 := Nat.xor_lt_two_pow hx20 hy20
  have h20 : (2 : Nat) ^ 20 = 1048576 := by decide
  rw [xor_nat (by omega) (by omega), wrap_u64n (by omega)]
  refine call (tz64_ok (g.ext hE1) (by omega)) ?_
  rintro r w2 ⟨rfl, rfl⟩
  have hc20 := (ctzx_spec (m := 20) (by omega) hxy hx20 hy20).1
  have hcz : Go.Lib.ctz 64 (x ^^^ y) = ctzx x y := rfl
  rw [hcz]
  refine ⟨by omega, ?_⟩
  have hb := bit0_lt x (ctzx x y)
  have hv : stepV x y = 2 * ctzx x y + bit0 x (ctzx x y) := rfl
  rw [shrM (by omega), bitM (by omega), bit0_if, wrap_of (n := 2 * ((ctzx x y : Nat) : Int)) (by omega) (by omega), wrap_of (by omega) (by omega)]
  have e1 : 2 * ((ctzx x y : Nat) : Int) + ((bit0 x (ctzx x y) : Nat) : Int) = f i := by rw [hfi, hv]; push_cast; rfl
  rw [e1]
  refine pushI hO1 hE1 (by rw [← e1]; unfold I64; omega) (by rw [mk0_len]; omega) fun r2 w3 hE3 hO3 => ?_
  rw [← mk0_snoc] at hO3
  exact IN2_next (by omega) hi' ⟨hE3, hO3⟩

theorem five_most {l : List Int} : (mostOf l > 5) ↔ five l = false := by
  obtain ⟨h1, h2, h3⟩ := mostOf_spec l
  constructor
  · intro hm
    cases hf : five l with
    | false => rfl
    | true =>
      have h4 := five_iff.1 hf
      rcases h3 with h3 | h3
      · omega
      · have := h4 _ h3; omega
  · intro hf
    by_cases h4 : 5 < mostOf l
    · exact h4
    · have : five l = true := five_iff.2 fun x hx => by have := h2 x hx; omega
      rw [this] at hf; cases hf

/-- The colours above two are lessened one by one. -/
def redJ (l : List Int) : Nat → List Int
  | 0 => l
  | j + 1 => redC (5 - (j : Int)) (redJ l j)
theorem redJ_three (l : List Int) : redJ (sixL 4 l) 3 = threeL l := rfl
theorem redJ_len (l : List Int) : ∀ j, (redJ l j).length = l.length
  | 0 => rfl
  | j + 1 => by show (redC _ _).length = _; rw [redC_len, redJ_len l j]
theorem redJ_six {l : List Int} (h : SixC l 5) : ∀ j, j ≤ 3 → SixC (redJ l j) (5 - (j : Int))
  | 0, _ => h
  | j + 1, hj => by
    have := (redJ_six h j (by omega)).next (by omega)
    have e : (5 : Int) - ((j + 1 : Nat) : Int) = 5 - (j : Int) - 1 := by omega
    rw [e]; exact this

theorem redS_I64 {c : Int} {l : List Int} {j : Nat} (h : Small0 l 100) : ∀ x ∈ redS c l j, I64 x := by
  intro x hx
  obtain ⟨i, hi, rfl⟩ := mk0_mem.1 hx
  have h1 := h _ (at0_mem hi)
  have h2 := freeC_range (at0 l (prv l.length i)) (at0 l (nxt l.length i))
  unfold redV I64
  split
  · split <;> omega
  · omega

theorem freeC_of {a b : Int} {u : Nat} (hu : u ≤ 2) (hall : ∀ v : Nat, v < u → (v : Int) = a ∨ (v : Int) = b) (h1 : (u : Int) ≠ a) (h2 : (u : Int) ≠ b) : (u : Int) = freeC a b := by
  unfold freeC
  obtain rfl | rfl | rfl : u = 0 ∨ u = 1 ∨ u = 2 := by omega
  · rw [if_neg (by omega)]; rfl
  · have := hall 0 (by omega)
    rw [if_pos (by omega), if_neg (by omega)]; rfl
  · have := hall 0 (by omega)
    have := hall 1 (by omega)
    rw [if_pos (by omega), if_pos (by omega)]; rfl

theorem threeColours_ok {w : World} (g : GT w) {s : Sl} {l : List Int} (h : R w s l) (hp : ProperC l) (hs : Small0 l 1048576) (h0 : 0 < l.length) (hl : l.length ≤ 1000) :
    Calls Tryz.prog F.i_threeColours #[s.v] w (Ret [.at .sl, .at (.int .i64)] fun (r : Sl) (_ : Int) w' => Ext w w' ∧ OwnL w' w.heap.size T.t_int r (threeL l)) := by
  refine C_i_threeColours ?_
  unfold V_i_threeColours
  refine call (clone_ok h (by omega)) ?_
  rintro r1 w1 ⟨hE1, hO1⟩
  refine ⟨fun (x : Sl) (rd : Int) w' => ∃ (n : Nat) (L : List Int), rd = 4 - (n : Int) ∧ SixSt l n L ∧ Ext w w' ∧ OwnL w' w.heap.size T.t_int x L, fun _ rd _ => (4 - rd).toNat, ⟨4, l, rfl, .start hp hs, hE1, hO1⟩, ?_⟩
  rintro x _ w2 ⟨n, L, rfl, hst, hE2, hO2⟩
  intros
  have hLl : L.length = l.length := hst.len
  have hnn : ∀ y ∈ L, 0 ≤ y := fun y hy => (hst.nn y hy).1
  have hR2 : R w2 x L := (hO2.rep (small_I64 (B := 1048576) hst.nn (by omega))).any
  refine call (max_ok hR2 (by omega) hnn) ?_
  rintro _ _ ⟨rfl, rfl⟩
  refine cond_dec (fun hgt => ?_) (fun hle => ?_)
  · have hf := (five_most).1 hgt
    have hn0 := hst.pos hf
    obtain ⟨n, rfl⟩ : ∃ m, n = m + 1 := ⟨n - 1, by omega⟩
    refine call (bitStep_ok (g.ext hE2) hR2 hst.proper hst.nn (by omega)) ?_
    rintro r3 w3 ⟨hE3, hO3⟩
    have hle4 := hst.le
    rw [wrap_of (by omega) (by omega)]
    exact ⟨⟨n, stepL L, by omega, hst.next hf, hE2.trans hE3, hO3.low hE2.size_le⟩, by simp only []; omega⟩
  · have hf : five L = true := by
      cases hf : five L with
      | true => rfl
      | false => exact absurd ((five_most).2 hf) hle
    obtain ⟨eL, hsix⟩ := hst.six_end hf
    have hle4 := hst.le
    refine ⟨fun (rd c : Int) w' => ∃ j : Nat, j ≤ 3 ∧ 0 ≤ rd ∧ rd ≤ 4 + j ∧ c = 5 - (j : Int) ∧ Ext w w' ∧ OwnL w' w.heap.size T.t_int x (redJ L j), fun _ c _ => c.toNat, ⟨0, by omega, by omega, by omega, by omega, hE2, hO2⟩, ?_⟩
    rintro rd _ w3 ⟨j, hj, hrd0, hrd, rfl, hE3, hO3⟩
    intros
    have hM := redJ_six hsix j hj
    have hMl : (redJ L j).length = l.length := by rw [redJ_len, hLl]
    have hlast : j = 3 → redJ L j = threeL l := fun e => by rw [e, eL]; exact redJ_three l
    have hnext : redC (5 - (j : Int)) (redJ L j) = redJ L (j + 1) := rfl
    generalize redJ L j = M at hM hMl hlast hnext hO3
    have hsm : Small0 M 100 := fun y hy => by have := hM.small y hy; omega
    refine cond_dec (fun hgt => ?_) (fun hle2 => ?_)
    rotate_left
    · have : j = 3 := by omega
      rw [hlast this] at hO3
      exact ⟨hE3, hO3⟩
    have hlenx : x.len = M.length := hO3.1
    rw [hlenx]
    refine ⟨IN M.length fun i w' => Ext w w' ∧ OwnL w' w.heap.size T.t_int x (redS (5 - (j : Int)) M i), MN M.length, IN_zero ⟨hE3, by rw [redS_zero]; exact hO3⟩, ?_⟩
    rintro _ w4 ⟨i, rfl, hi, hE4, hO4⟩
    intros
    refine cond_dec (fun hlt => ?_) (fun hge => ?_)
    rotate_left
    · have : i = M.length := by omega
      subst this
      rw [redS_end, hnext] at hO4
      rw [wrap_of (n := rd + 1) (by omega) (by omega), wrap_of (by omega) (by omega)]
      exact ⟨⟨j + 1, by omega, by omega, by omega, by omega, hE4, hO4⟩, by simp only []; omega⟩
    have hi' : i < M.length := by omega
    have hRS : R w4 x (redS (5 - (j : Int)) M i) := (hO4.rep (redS_I64 hsm)).any
    have hil : i < (redS (5 - (j : Int)) M i).length := by rw [redS_len]; exact hi'
    refine hRS.ixI hil fun q _ hc => LD_int hc ?_
    rw [← at0_get hil, redS_at hi' (.inr (Nat.le_refl _))]
    refine cond_ne (fun hne => ?_) (fun heq => ?_)
    · exact IN_next (by omega) hi' ⟨hE4, by rw [redS_skip hne]; exact hO4⟩
    have hpl := prv_lt hi'
    have hnl := nxt_lt hi'
    have hpne : at0 M (prv M.length i) ≠ 5 - (j : Int) := by
      have := hM.proper _ hpl
      rw [nxt_prv hi', heq] at this; exact this
    have hnne : at0 M (nxt M.length i) ≠ 5 - (j : Int) := by
      have := hM.proper _ hi'
      rw [heq] at this; exact Ne.symm this
    refine ⟨fun (y : Int) w' => w4 = w' ∧ ∃ u : Nat, y = u ∧ u ≤ 2 ∧ ∀ v : Nat, v < u → (v : Int) = at0 M (prv M.length i) ∨ (v : Int) = at0 M (nxt M.length i), fun y _ => (3 - y).toNat, ⟨rfl, 0, rfl, by omega, fun v hv => by omega⟩, ?_⟩
    rintro _ _ ⟨rfl, u, rfl, hu, hall⟩
    intros
    refine ⟨by omega, ?_⟩
    rw [tmod_prv hi' (by omega)]
    have hpl2 : prv M.length i < (redS (5 - (j : Int)) M i).length := by rw [redS_len]; exact hpl
    have hnl2 : nxt M.length i < (redS (5 - (j : Int)) M i).length := by rw [redS_len]; exact hnl
    refine hRS.ixI hpl2 fun q2 _ hc2 => LD_int hc2 ?_
    rw [← at0_get hpl2, redS_at hpl (.inl hpne)]
    -- the number is taken
    have more : ((u : Int) = at0 M (prv M.length i) ∨ (u : Int) = at0 M (nxt M.length i)) → (w4 = w4 ∧ ∃ u' : Nat, IntKind.i64.wrap ((u : Int) + 1) = u' ∧ u' ≤ 2 ∧ ∀ v : Nat, v < u' → (v : Int) = at0 M (prv M.length i) ∨ (v : Int) = at0 M (nxt M.length i)) ∧ (3 - IntKind.i64.wrap ((u : Int) + 1)).toNat < (3 - (u : Int)).toNat := fun hh => by
      rw [wrap_of (by omega) (by omega)]
      have hall2 : ∀ v : Nat, v < u + 1 → (v : Int) = at0 M (prv M.length i) ∨ (v : Int) = at0 M (nxt M.length i) := fun v hv => by
        by_cases e : v = u
        · subst e; exact hh
        · exact hall v (by omega)
      refine ⟨⟨rfl, u + 1, by omega, ?_, hall2⟩, by omega⟩
      rcases Nat.lt_or_ge u 2 with h2 | h2
      · omega
      · have b0 := hall2 0 (by omega)
        have b1 := hall2 1 (by omega)
        have b2 := hall2 2 (by omega)
        omega
    refine cond_eq (fun he => more (.inl he)) (fun hne1 => ⟨by omega, ?_⟩)
    rw [tmod_nxt hi' (by omega)]
    refine hRS.ixI hnl2 fun q3 _ hc3 => LD_int hc3 ?_
    rw [← at0_get hnl2, redS_at hnl (.inl hnne)]
    refine cond_eq (fun he => more (.inr he)) (fun hne2 => ?_)
    have hval : (u : Int) = redV (5 - (j : Int)) M i := by
      unfold redV
      rw [if_pos heq]
      exact freeC_of hu hall hne1 hne2
    refine IX_own hO4 hil rfl fun q4 hq4 => ?_
    refine ST_own hO4 hil hq4 ((u : Int)) rfl fun w5 hO5 hs5 => ?_
    rw [hval, redS_set] at hO5
    exact IN_next (by omega) hi' ⟨hs5.ext0 hE4 fun k hk => (hO4.blk k hk).1, hO5⟩

end Go.Proofs.YtaeledhbkdakcaaGreatDoor
end

section
/- slices.Values at []int: its closure calls yield for each element; turned from the kit's worked text on the library's two iterators over a slice. -/
namespace Go.Proofs.YtaeledhbkdakcaaGreatDoor
open Go Go.RowKit Go.Shelf Go.Proofs

attribute [local go_sem] Oper.semAt_some

theorem add_block (ad : Addr) (k : Nat) : (ad.add k).block = ad.block := by unfold Addr.add; split <;> rfl

/-- The slice value sv holds the ints zs, in a block below n₀; or it is nil and there are none. -/
def IntsIn (n₀ : Nat) (W : World) (sv : Value) (zs : List Int) : Prop :=
  (∃ cap, sv = .slice none 0 cap ∧ zs = []) ∨ ∃ ad cap, sv = .slice (some ad) zs.length cap ∧ (0 < zs.length → ad.block < n₀) ∧ ∀ j, j < zs.length → W.cell? (ad.add j) = some (.int .i64 (zs[j]?.getD 0))
theorem IntsIn.below {n₀ : Nat} {A B : World} (h : Below n₀ A B) {sv : Value} {zs : List Int} : IntsIn n₀ A sv zs → IntsIn n₀ B sv zs
  | .inl e => .inl e
  | .inr ⟨ad, cap, e, hb, hc⟩ => .inr ⟨ad, cap, e, hb, fun j hj => (h.cell (p := ad.add j) (by rw [add_block]; exact hb (by omega))).trans (hc j hj)⟩

end Go.Proofs.YtaeledhbkdakcaaGreatDoor
end

section
/- slices.AppendSeq(nil, slices.Values(s)), slices.Collect, slices.Sorted at []int. The walk of the loop is turned from the kit's worked texts (a loop over slices.Values; the shelf's slices.Collect). -/
namespace Go.Proofs.YtaeledhbkdakcaaGreatDoor
open Go Go.RowKit Go.Shelf Go.Proofs

attribute [local go_sem] Oper.semAt_some

open Go.GX

end Go.Proofs.YtaeledhbkdakcaaGreatDoor
end

section
/- Lists of lists of the call's own whose rows lie apart: rows that are written, that grow, that are added. No program is named here. -/
namespace Go.GX
open Go.RowKit

/-- The slice s of the call's own holds the rows ss, which read as the lists L and lie in blocks of their own. -/
structure RowsD {α : Type} [Flat α] (w : World) (base : Nat) (e e' : TypeId) (s : Sl) (L : List (List α)) (ss : List Sl) : Prop where
  own : OwnL w base e' s ss
  len : ss.length = L.length
  row : ∀ (i : Nat) (r : Sl) (l : List α), ss[i]? = some r → L[i]? = some l → OwnL w base e r l
  apart : ∀ (i j : Nat) (r q : Sl), ss[i]? = some r → ss[j]? = some q → i ≠ j → ∀ k, r.v.ownBlock = some k → q.v.ownBlock ≠ some k

section
variable {α : Type} [Flat α] {w w' : World} {base : Nat} {e e' : TypeId} {s : Sl} {L : List (List α)} {ss : List Sl}

theorem RowsD.own2 (h : RowsD w base e e' s L ss) : Own2 w base e e' s L := ⟨ss, h.own, h.len, h.row⟩
theorem RowsD.rep (h : RowsD w base e e' s L ss) (hok : ∀ l ∈ L, ∀ x ∈ l, Flat.ok x) : R w s L := h.own2.rep hok
theorem RowsD.nil (w : World) (base : Nat) (e e' : TypeId) : RowsD w base e e' ⟨none, 0, 0⟩ ([] : List (List α)) [] := ⟨OwnL.nil _ _ _, rfl, fun i r l h => by simp at h, fun i j r q h => by simp at h⟩
theorem RowsD.keep (h : RowsD w base e e' s L ss) (hk : ∀ k, base ≤ k → k < w.heap.size → w'.heap[k]? = w.heap[k]?) : RowsD w' base e e' s L ss :=
  ⟨h.own.keep fun k hb => hk k (h.own.blk k hb).1 (h.own.blk k hb).2, h.len, fun i r l hr hl => (h.row i r l hr hl).keep fun k hb => hk k ((h.row i r l hr hl).blk k hb).1 ((h.row i r l hr hl).blk k hb).2, h.apart⟩
theorem RowsD.ext (h : RowsD w base e e' s L ss) (hE : Ext w w') : RowsD w' base e e' s L ss := h.keep fun _ _ hk => hE.same hk
theorem RowsD.low (h : RowsD w base e e' s L ss) {b : Nat} (hb : b ≤ base) : RowsD w b e e' s L ss := ⟨h.own.low hb, h.len, fun i r l hr hl => (h.row i r l hr hl).low hb, h.apart⟩

theorem RowsD.at (h : RowsD w base e e' s L ss) {i : Nat} (hi : i < L.length) : ∃ r, ss[i]? = some r ∧ OwnL w base e r L[i] := by
  have h1 : i < ss.length := by rw [h.len]; exact hi
  exact ⟨ss[i], by simp [h1], h.row i ss[i] L[i] (by simp [h1]) (by simp [hi])⟩

/-- Looking up a row. -/
theorem RowsD.ix (h : RowsD w base e e' s L ss) {i : Nat} (hi : i < L.length) {K : Addr → Prop} (hk : ∀ p r, ss[i]? = some r → OwnL w base e r L[i] → w.cell? p = some r.v → s.v.ownBlock = some p.block → K p) : IX s i 1 K := by
  obtain ⟨r, hr, hO⟩ := h.at hi
  obtain ⟨a, cs, ha, _, hrep, hc⟩ := (h.own.rep fun _ _ => trivial).2.2 i r hr
  have hcs : cs = [r.v] := hrep
  subst hcs
  have hlen := h.own.1
  have hl2 := h.len
  refine ⟨a, ha, by omega, by omega, hk _ r hr hO (hc 0 _ rfl) ?_⟩
  have hsv : s.v = .slice (some a) s.len s.cap := by simp [Sl.v, ha]
  rw [hsv, add_block]
  rcases h.own.2.2 with ⟨hv, h0⟩ | ⟨g, cap, cur, hv, _⟩
  · omega
  · rw [hsv] at hv
    obtain ⟨h1, _⟩ := Value.slice.inj hv
    cases h1
    rfl

theorem RowsD.block_ne (h : RowsD w base e e' s L ss) (hne : e ≠ e') {i : Nat} {r : Sl} (hr : ss[i]? = some r) {k : Nat} (hk : r.v.ownBlock = some k) : s.v.ownBlock ≠ some k := fun he => by
  have hi : i < L.length := by rw [← h.len]; exact (List.getElem?_eq_some_iff.1 hr).1
  obtain ⟨c1, e1⟩ := (h.row i r L[i] hr (by simp [hi])).type hk
  obtain ⟨c2, e2⟩ := h.own.type he
  rw [e1] at e2
  exact hne (Obj.cells.inj (Option.some.inj e2)).2.1

/-- A row that is written in place. -/
theorem RowsD.chg (h : RowsD w base e e' s L ss) (hne : e ≠ e') {i : Nat} {r : Sl} (hr : ss[i]? = some r) {l' : List α} (hO : OwnL w' base e r l') (hs : Step w w' r.v.ownBlock) : RowsD w' base e e' s (L.set i l') ss := by
  have hi : i < L.length := by rw [← h.len]; exact (List.getElem?_eq_some_iff.1 hr).1
  refine ⟨h.own.keep fun k hk => hs.block k (h.own.blk k hk).2 fun he => h.block_ne hne hr he.symm hk, by simp [h.len], fun j q l hq hl => ?_, h.apart⟩
  by_cases hji : j = i
  · subst hji
    rw [List.getElem?_set_self hi] at hl
    rw [hr] at hq
    cases hl; cases hq
    exact hO
  · rw [List.getElem?_set_ne (Ne.symm hji)] at hl
    have hq' := h.row j q l hq hl
    exact hq'.keep fun k hk => hs.block k (hq'.blk k hk).2 fun he => h.apart i j r q hr hq (Ne.symm hji) k he.symm hk

/-- A row that is replaced: what it became lies in its block or in a new one. -/
theorem RowsD.put (h : RowsD w base e e' s L ss) (hne : e ≠ e') {i : Nat} (hi : i < L.length) {r r' : Sl} (hr : ss[i]? = some r) {w1 : World} {l' : List α} (hO : OwnL w1 base e r' l') (hs : Step w w1 r.v.ownBlock) (hn : NewOr w r r') {p : Addr} (hp : Plc s i 1 p) {K : World → Prop}
    (hk : ∀ w2, RowsD w2 base e e' s (L.set i l') (ss.set i r') → Step w1 w2 s.v.ownBlock → K w2) : ST p 0 [r'.v] w1 K := by
  have hi' : i < ss.length := by rw [h.len]; exact hi
  have hown : OwnL w1 base e' s ss := h.own.keep fun k hk => hs.block k (h.own.blk k hk).2 fun he => h.block_ne hne hr he.symm hk
  have hlt : ∀ (j : Nat) (q : Sl), ss[j]? = some q → ∀ k, q.v.ownBlock = some k → k < w.heap.size := fun j q hq k hk => by
    have hj : j < L.length := by rw [← h.len]; exact (List.getElem?_eq_some_iff.1 hq).1
    exact ((h.row j q L[j] hq (by simp [hj])).blk k hk).2
  have hap : ∀ (j : Nat) (q : Sl), ss[j]? = some q → j ≠ i → ∀ k, r'.v.ownBlock = some k → q.v.ownBlock ≠ some k := fun j q hq hji k hk hqk => by
    rcases hn with hn | hn
    · rw [hn] at hk
      exact h.apart i j r q hr hq (Ne.symm hji) k hk hqk
    · have := hn k hk
      have := hlt j q hq k hqk
      omega
  refine ST_own hown hi' (p := p) hp r' rfl fun w2 hO2 hs2 => hk w2 ⟨hO2, by simp [h.len], fun j q l hq hl => ?_, fun j k q q' hq hq' hjk => ?_⟩ hs2
  · have hst : ∀ {q : Sl} {l : List α}, OwnL w1 base e q l → OwnL w2 base e q l := fun hq => hq.step hown hne hs2
    by_cases hji : j = i
    · subst hji
      rw [List.getElem?_set_self hi] at hl
      rw [List.getElem?_set_self hi'] at hq
      cases hl; cases hq
      exact hst hO
    · rw [List.getElem?_set_ne (Ne.symm hji)] at hl hq
      have hq' := h.row j q l hq hl
      exact hst (hq'.keep fun k hk => hs.block k (hq'.blk k hk).2 fun he => h.apart i j r q hr hq (Ne.symm hji) k he.symm hk)
  · by_cases hji : j = i
    · subst hji
      rw [List.getElem?_set_self hi'] at hq
      rw [List.getElem?_set_ne hjk] at hq'
      cases hq
      exact hap k q' hq' (Ne.symm hjk)
    · rw [List.getElem?_set_ne (Ne.symm hji)] at hq
      by_cases hki : k = i
      · subst hki
        rw [List.getElem?_set_self hi'] at hq'
        cases hq'
        exact fun b hb hb' => hap j q hq hji b hb' hb
      · rw [List.getElem?_set_ne (Ne.symm hki)] at hq'
        exact h.apart j k q q' hq hq' hjk

end

/-- One more row. -/
theorem RUN_append_rowDF {α : Type} [Flat α] {P : Program} {t e e' : TypeId} {bytes : Nat} {z : Value} (hT : SlT P t e' 1 bytes z) (hne : e ≠ e') {w : World} {base b1 : Nat} {s y r : Sl} {L : List (List α)} {ss : List Sl} {l : List α} (h : RowsD w base e e' s L ss) (hbase : base ≤ w.heap.size)
    (hr : OwnL w base e r l) (hnew : ∀ (j : Nat) (q : Sl), ss[j]? = some q → ∀ k, q.v.ownBlock = some k → r.v.ownBlock ≠ some k) (hy : OwnL w b1 e' y [r]) (hlen : (L.length + 1) * bytes ≤ 140737488355328) (hmax : L.length + 1 ≤ maxLen) {K : Sl → World → Prop}
    (hk : ∀ s' w', RowsD w' base e e' s' (L ++ [l]) (ss ++ [r]) → Step w w' s.v.ownBlock → NewOr w s s' → K s' w') : RUN P (.at .sl) (bsem .append #[t, t] t #[s.v, y.v]) w K := by
  have hl2 := h.len
  refine RUN_appendF (α := Sl) hT h.own hbase (hy.rep fun _ _ => trivial).any (by simp [hl2]; exact hlen) (by simp [hl2]; exact hmax) fun s' w' hO hs hN => hk s' w' ⟨hO, by simp [hl2], fun i q m hq hm => ?_, fun i j q q' hq hq' hij => ?_⟩ hs hN
  · by_cases hi : i < ss.length
    · rw [List.getElem?_append_left hi] at hq
      rw [List.getElem?_append_left (by omega)] at hm
      exact (h.row i q m hq hm).step h.own hne hs
    · rw [List.getElem?_append_right (by omega)] at hq
      rw [List.getElem?_append_right (by omega), ← hl2] at hm
      have : i - ss.length = 0 := by
        have := (List.getElem?_eq_some_iff.1 hq).1
        simp at this; omega
      rw [this] at hq hm
      simp at hq hm
      subst hq; subst hm
      exact hr.step h.own hne hs
  · have hcase : ∀ {i : Nat} {q : Sl}, (ss ++ [r])[i]? = some q → (i < ss.length ∧ ss[i]? = some q) ∨ (i = ss.length ∧ q = r) := fun {i q} hq => by
      by_cases hi : i < ss.length
      · rw [List.getElem?_append_left hi] at hq; exact .inl ⟨hi, hq⟩
      · rw [List.getElem?_append_right (by omega)] at hq
        have h1 := (List.getElem?_eq_some_iff.1 hq).1
        simp at h1
        have h2 : i = ss.length := by omega
        subst h2
        simp at hq
        exact .inr ⟨rfl, hq.symm⟩
    rcases hcase hq with ⟨h1, h2⟩ | ⟨h1, rfl⟩ <;> rcases hcase hq' with ⟨h3, h4⟩ | ⟨h3, rfl⟩
    · exact h.apart i j q q' h2 h4 hij
    · exact hnew i q h2
    · exact fun k hk hk' => hnew j q' h4 k hk' hk
    · omega

theorem RUN_append_rowD {α : Type} [Flat α] {P : Program} {t e e' : TypeId} {bytes : Nat} {z : Value} (hT : SlT P t e' 1 bytes z) (hne : e ≠ e') {w : World} {base b1 : Nat} {s y r : Sl} {L : List (List α)} {ss : List Sl} {l : List α} (h : RowsD w base e e' s L ss) (hbase : base ≤ w.heap.size)
    (hr : OwnL w base e r l) (hnew : ∀ (j : Nat) (q : Sl), ss[j]? = some q → ∀ k, q.v.ownBlock = some k → r.v.ownBlock ≠ some k) (hy : OwnL w b1 e' y [r]) (hlen : (L.length + 1) * bytes ≤ 140737488355328) (hmax : L.length + 1 ≤ maxLen) {K : Sl → World → Prop}
    (hk : ∀ s' w', RowsD w' base e e' s' (L ++ [l]) (ss ++ [r]) → Step w w' s.v.ownBlock → K s' w') : RUN P (.at .sl) (bsem .append #[t, t] t #[s.v, y.v]) w K :=
  RUN_append_rowDF hT hne h hbase hr hnew hy hlen hmax fun s' w' h1 h2 _ => hk s' w' h1 h2

/-- One more row, made behind the others. -/
theorem RowsD.fresh {α : Type} [Flat α] {w w' : World} {base b1 : Nat} {e e' : TypeId} {s r : Sl} {L : List (List α)} {ss : List Sl} {l : List α} (h : RowsD w base e e' s L ss) (hr : OwnL w' b1 e r l) (hb : w.heap.size ≤ b1) : ∀ (j : Nat) (q : Sl), ss[j]? = some q → ∀ k, q.v.ownBlock = some k → r.v.ownBlock ≠ some k := fun j q hq k hk hrk => by
  have hj : j < L.length := by rw [← h.len]; exact (List.getElem?_eq_some_iff.1 hq).1
  have h1 := ((h.row j q L[j] hq (by simp [hj])).blk k hk).2
  have h2 := (hr.blk k hrk).1
  omega

end Go.GX
end

section
/- What the laws do with matrices: copy, compare, measure. Turned from our texts on a network's ends. -/
namespace Go.Proofs.YtaeledhbkdakcaaGreatDoor
open Go.GX Go.RowKit
set_option maxRecDepth 100000

/-- A matrix of bounded size. -/
def SmallM (l : List (List Int)) : Prop := l.length ≤ 1048576 ∧ ∀ r ∈ l, r.length ≤ 1048576

theorem slt_rows : SlT Tryz.prog T.t_sl_sl_int T.t_sl_int 1 24 (.slice none 0 0) := ⟨by kernel_rfl, by kernel_rfl, rfl, by decide⟩

theorem toIntSS_own {w : World} {a : Sl} {l : List (List Int)} (h : R w a l) (hb : l.length ≤ 1048576) (hbb : ∀ r ∈ l, r.length ≤ 1048576) :
    Calls Tryz.prog F.l_toIntSS #[a.v] w (Ret [.at .sl] fun (s : Sl) w' => Ext w w' ∧ Own2 w' w.heap.size T.t_int T.t_sl_int s l) := by
  refine C_l_toIntSS ?_
  unfold V_l_toIntSS
  rw [h.len]
  refine RUN_make (α := Sl) slt_rows (d := ⟨none, 0, 0⟩) rfl (by omega) (by unfold maxLen; omega) fun s w1 hE1 hO1 => ?_
  refine ⟨IN l.length fun i w' => Ext w w' ∧ ∃ ss : List Sl, ss.length = l.length ∧ OwnL w' w.heap.size T.t_sl_int s ss ∧ ∀ (k : Nat) (q : Sl) (m : List Int), k < i → ss[k]? = some q → l[k]? = some m → OwnL w' w.heap.size T.t_int q m, MN l.length,
    IN_zero ⟨hE1, List.replicate l.length ⟨none, 0, 0⟩, by simp, hO1, fun k _ _ h3 => by omega⟩, ?_⟩
  rintro x w2 ⟨i, rfl, hi, hE, ss, hss, hO, hR⟩
  intros
  refine cond_dec (fun hlt => ?_) (fun hge => ?_)
  · have hlt' : i < l.length := by omega
    refine (h.ext hE).ixL hlt' fun p s' hs' hc => LD_sl hc ?_
    have hz := hE.size_le
    refine call (toIntS_ok hs'.any (hbb _ (List.getElem_mem _))) ?_
    rintro s3 w3 ⟨hE3, hO3⟩
    have hO' := hO.ext hE3
    refine IX_own hO' (by omega) rfl fun p hp => ?_
    refine ST_own hO' (by omega) hp s3 rfl fun w4 hO4 hs => ?_
    refine IN_next (by omega) hlt' ⟨hs.ext0 (hE.trans hE3) (fun k hk => (hO'.blk k hk).1), ss.set i s3, by simp [hss], hO4, fun k q m h1 h2 h3 => ?_⟩
    by_cases hk : k = i
    · subst hk
      rw [List.getElem?_set_self (by omega)] at h2
      rw [List.getElem?_eq_getElem hlt'] at h3
      cases h2
      cases h3
      exact (hO3.low hz).step hO' (by decide) hs
    · rw [List.getElem?_set_ne (Ne.symm hk)] at h2
      exact ((hR k q m (by omega) h2 h3).ext hE3).step hO' (by decide) hs
  · have : i = l.length := by omega
    subst this
    refine ⟨hE, ss, hO, hss, fun k q m h2 h3 => hR k q m (List.getElem?_eq_some_iff.1 h3).1 h2 h3⟩

theorem flat_okII {w : World} {s : Sl} {l : List (List Int)} (h : R w s l) : ∀ r ∈ l, ∀ x ∈ r, Flat.ok x := fun r hr x hx => by
  obtain ⟨i, hi, rfl⟩ := List.mem_iff_getElem.1 hr
  obtain ⟨_, _, _, _, ⟨s', _, h1⟩, _⟩ := h.2.2 i l[i] (by simp [hi])
  exact flat_ok h1 x hx

theorem szIntSS_ok {w : World} {a : Sl} {l : List (List Int)} (h : R w a l) (left : Int) (h0 : 0 ≤ left) (h1 : left ≤ 1048576) :
    Calls Tryz.prog F.l_szIntSS #[a.v, .int .i64 left] w (Ret [.at (.int .i64)] fun (x : Int) w' => (0 ≤ x → x ≤ left ∧ l.length ≤ left ∧ ∀ r ∈ l, r.length ≤ left) ∧ w = w') := by
  refine C_l_szIntSS ?_
  unfold V_l_szIntSS
  have := h.le
  rw [h.len, wrap_of (by omega) (by omega)]
  refine cond_dec (fun _ => ⟨by omega, rfl⟩) (fun hle => ?_)
  refine ⟨fun y x w' => w = w' ∧ 0 ≤ y ∧ y ≤ left ∧ ∃ i : Nat, x = i ∧ i ≤ l.length ∧ ∀ r ∈ l.take i, r.length ≤ left, fun _ x _ => l.length - x.toNat, ⟨rfl, by omega, by omega, 0, rfl, by omega, by simp⟩, ?_⟩
  rintro y x _ ⟨rfl, hy0, hy, i, rfl, hi, hr⟩
  intros
  refine cond_dec (fun hlt => ?_) (fun hge => ⟨fun _ => ⟨hy, by omega, ?_⟩, rfl⟩)
  · have hlt' : i < l.length := by omega
    refine h.ixL hlt' fun p s' hs' hc => LD_sl hc ?_
    refine call (szIntS_ok hs'.any y hy0 (by omega)) ?_
    rintro x _ ⟨hx, rfl⟩
    refine cond_dec (fun _ => ⟨by omega, rfl⟩) (fun hn => ?_)
    have hx' := hx (by omega)
    rw [wrap_of (by omega) (by omega)]
    refine ⟨⟨rfl, by omega, by omega, i + 1, by omega, hlt', fun r hr' => ?_⟩, by simp only []; omega⟩
    rw [List.take_succ_eq_append_getElem hlt'] at hr'
    rcases List.mem_append.1 hr' with h3 | h3
    · exact hr r h3
    · rw [List.mem_singleton.1 h3]; omega
  · have : i = l.length := by omega
    subst this
    simpa using hr

theorem eqIntSS_ok {w : World} {a b : Sl} {l m : List (List Int)} (ha : R w a l) (hb : R w b m) :
    Calls Tryz.prog F.l_eqIntSS #[a.v, b.v] w (Ret [.at .bool] fun (x : Bool) w' => x = decide (l = m) ∧ Ext w w') := by
  refine C_l_eqIntSS ?_
  unfold V_l_eqIntSS
  rw [ha.len, hb.len]
  refine cond_ne (fun hne => ⟨?_, Ext.refl _⟩) (fun he => ?_)
  · rw [decide_eq_false]; intro h; subst h; exact hne rfl
  · have hl : l.length = m.length := by omega
    refine ⟨IN l.length fun i w' => Ext w w' ∧ l.take i = m.take i, MN l.length, IN_zero ⟨Ext.refl _, by simp⟩, ?_⟩
    rintro x w1 ⟨i, rfl, hi, hE, ht⟩
    intros
    refine cond_dec (fun hlt => ?_) (fun hge => ⟨?_, hE⟩)
    · have h1 : i < l.length := by omega
      have h2 : i < m.length := by omega
      refine (ha.ext hE).ixL h1 fun p s1 hs1 hc => LD_sl hc ?_
      refine (hb.ext hE).ixL h2 fun p s2 hs2 hc => LD_sl hc ?_
      refine QCALL_bool _ (fun w' hw' => eqIntS_ok (hs1.any.ext hw') (hs2.any.ext hw')) ?_
      intro w2 hE2
      refine cond_not (fun hf => ⟨?_, hE.trans hE2⟩) (fun htr => ?_)
      · rw [decide_eq_false]; intro h; subst h; simp at hf
      · have heq : l[i] = m[i] := of_decide_eq_true htr
        exact IN_next ha.le h1 ⟨hE.trans hE2, by rw [List.take_succ_eq_append_getElem h1, List.take_succ_eq_append_getElem h2, ht, heq]⟩
    · have h3 : i = l.length := by omega
      subst h3
      rw [decide_eq_true]
      have h4 : m.take l.length = m := List.take_of_length_le (by omega)
      rw [h4, List.take_length] at ht
      exact ht

/-! ### Marks in matrices -/

/-- How many numbers lie in the first rows. -/
def pre (L : List (List Int)) (i : Nat) : Nat := ((L.take i).map List.length).sum
/-- A matrix of the call's own: its rows lie apart from each other. -/
structure OutM (base : Nat) (w : World) (s : Sl) (L : List (List Int)) : Prop where
  ex : ∃ ss : List Sl, RowsD w base T.t_int T.t_sl_int s L ss
  i64 : ∀ r ∈ L, ∀ x ∈ r, I64 x
  rows : L.length ≤ 1048576
  small : ∀ r ∈ L, r.length ≤ 1048576

theorem OutM.own2 {base : Nat} {w : World} {s : Sl} {L : List (List Int)} (h : OutM base w s L) : Own2 w base T.t_int T.t_sl_int s L := by
  obtain ⟨ss, h1, h2, h3, _⟩ := h.ex
  exact ⟨ss, h1, h2, h3⟩
theorem OutM.rep {base : Nat} {w : World} {s : Sl} {L : List (List Int)} (h : OutM base w s L) : R w s L := h.own2.rep h.i64
theorem OutM.keep {base : Nat} {w w' : World} {s : Sl} {L : List (List Int)} (h : OutM base w s L) (hk : ∀ k, base ≤ k → k < w.heap.size → w'.heap[k]? = w.heap[k]?) : OutM base w' s L := by
  obtain ⟨ss, h1, h2, h3, h4⟩ := h.ex
  exact ⟨⟨ss, h1.keep fun k hb => hk k (h1.blk k hb).1 (h1.blk k hb).2, h2, fun i r l hr hl => (h3 i r l hr hl).keep fun k hb => hk k ((h3 i r l hr hl).blk k hb).1 ((h3 i r l hr hl).blk k hb).2, h4⟩, h.i64, h.rows, h.small⟩
theorem OutM.ext {base : Nat} {w w' : World} {s : Sl} {L : List (List Int)} (h : OutM base w s L) (hE : Ext w w') : OutM base w' s L := h.keep fun _ _ hk => hE.same hk
theorem OutM.chgR {base lo hi : Nat} {w w' : World} {s : Sl} {L : List (List Int)} (h : OutM base w s L) (hC : Chg w w' (fun b => lo ≤ b ∧ b < hi)) (hh : hi ≤ base) : OutM base w' s L :=
  h.keep fun k hk hlt => hC.block k hlt fun hD => by have := hD.2; omega
theorem OutM.nil (base : Nat) (w : World) : OutM base w ⟨none, 0, 0⟩ [] := ⟨⟨[], OwnL.nil _ _ _, rfl, fun i r l h => by simp at h, fun i j r q h => by simp at h⟩, by simp, by simp, by simp⟩
theorem OutM.low {base b : Nat} {w : World} {s : Sl} {L : List (List Int)} (h : OutM base w s L) (hb : b ≤ base) : OutM b w s L := by
  obtain ⟨ss, h1, h2, h3, h4⟩ := h.ex
  exact ⟨⟨ss, h1.low hb, h2, fun i r l hr hl => (h3 i r l hr hl).low hb, h4⟩, h.i64, h.rows, h.small⟩

/-- The blocks of a matrix's rows. -/
def RB (ss : List Sl) (b : Nat) : Prop := ∃ r ∈ ss, r.v.ownBlock = some b

/-! ### Two matrices that lie apart -/

/-- The blocks of a matrix. -/
def MB (s : Sl) (ss : List Sl) (b : Nat) : Prop := s.v.ownBlock = some b ∨ RB ss b

theorem _root_.Go.GX.RowsD.blk {w : World} {base : Nat} {s : Sl} {L : List (List Int)} {ss : List Sl} (h : RowsD w base T.t_int T.t_sl_int s L ss) {b : Nat} (hb : MB s ss b) : base ≤ b ∧ b < w.heap.size := by
  rcases hb with hb | ⟨r, hr, hb⟩
  · exact h.own.blk b hb
  · obtain ⟨i, hi, rfl⟩ := List.mem_iff_getElem.1 hr
    have hl := h.len
    exact (h.row i ss[i] (L[i]'(by omega)) (by simp [hi]) (by simp)).blk b hb

theorem _root_.Go.GX.RowsD.keepB {w w' : World} {base : Nat} {s : Sl} {L : List (List Int)} {ss : List Sl} (h : RowsD w base T.t_int T.t_sl_int s L ss) (hk : ∀ b, MB s ss b → w'.heap[b]? = w.heap[b]?) : RowsD w' base T.t_int T.t_sl_int s L ss :=
  ⟨h.own.keep fun b hb => hk b (.inl hb), h.len, fun i r l hr hl => (h.row i r l hr hl).keep fun b hb => hk b (.inr ⟨r, List.mem_of_getElem? hr, hb⟩), h.apart⟩

structure Out2M (base : Nat) (w : World) (s : Sl) (L : List (List Int)) (s' : Sl) (L' : List (List Int)) : Prop where
  ex : ∃ ss ss' : List Sl, RowsD w base T.t_int T.t_sl_int s L ss ∧ RowsD w base T.t_int T.t_sl_int s' L' ss' ∧ ∀ b, MB s ss b → ¬ MB s' ss' b
  i64 : ∀ r ∈ L, ∀ x ∈ r, I64 x
  rows : L.length ≤ 1048576
  small : ∀ r ∈ L, r.length ≤ 1048576
  i64' : ∀ r ∈ L', ∀ x ∈ r, I64 x
  rows' : L'.length ≤ 1048576
  small' : ∀ r ∈ L', r.length ≤ 1048576

theorem Out2M.keep {base : Nat} {w w' : World} {s s' : Sl} {L L' : List (List Int)} (h : Out2M base w s L s' L') (hk : ∀ k, base ≤ k → k < w.heap.size → w'.heap[k]? = w.heap[k]?) : Out2M base w' s L s' L' := by
  obtain ⟨ss, ss', h1, h2, h3⟩ := h.ex
  exact ⟨⟨ss, ss', h1.keepB fun b hb => hk b (h1.blk hb).1 (h1.blk hb).2, h2.keepB fun b hb => hk b (h2.blk hb).1 (h2.blk hb).2, h3⟩, h.i64, h.rows, h.small, h.i64', h.rows', h.small'⟩
theorem Out2M.ext {base : Nat} {w w' : World} {s s' : Sl} {L L' : List (List Int)} (h : Out2M base w s L s' L') (hE : Ext w w') : Out2M base w' s L s' L' := h.keep fun _ _ hk => hE.same hk
theorem Out2M.chgR {base lo hi : Nat} {w w' : World} {s s' : Sl} {L L' : List (List Int)} (h : Out2M base w s L s' L') (hC : Chg w w' (fun b => lo ≤ b ∧ b < hi)) (hh : hi ≤ base) : Out2M base w' s L s' L' :=
  h.keep fun k hk hlt => hC.block k hlt fun hD => by have := hD.2; omega
theorem Out2M.nil (base : Nat) (w : World) : Out2M base w ⟨none, 0, 0⟩ [] ⟨none, 0, 0⟩ [] :=
  ⟨⟨[], [], RowsD.nil _ _ _ _, RowsD.nil _ _ _ _, fun b hb => (by
    rcases hb with hb | ⟨r, hr, _⟩
    · cases hb
    · cases hr)⟩, by simp, by simp, by simp, by simp, by simp, by simp⟩
theorem Out2M.low {base b : Nat} {w : World} {s s' : Sl} {L L' : List (List Int)} (h : Out2M base w s L s' L') (hb : b ≤ base) : Out2M b w s L s' L' := by
  obtain ⟨ss, ss', h1, h2, h3⟩ := h.ex
  exact ⟨⟨ss, ss', ⟨h1.own.low hb, h1.len, fun i r l hr hl => (h1.row i r l hr hl).low hb, h1.apart⟩, ⟨h2.own.low hb, h2.len, fun i r l hr hl => (h2.row i r l hr hl).low hb, h2.apart⟩, h3⟩, h.i64, h.rows, h.small, h.i64', h.rows', h.small'⟩
theorem Out2M.rep {base : Nat} {w : World} {s s' : Sl} {L L' : List (List Int)} (h : Out2M base w s L s' L') : R w s L := by
  obtain ⟨ss, ss', h1, _, _⟩ := h.ex
  exact h1.rep h.i64
theorem mintss_of {w : World} {base : Nat} {s : Sl} {L : List (List Int)} (h : Own2 w base T.t_int T.t_sl_int s L) (hl : L.length ≤ 1048576) (hll : ∀ r ∈ L, r.length ≤ 1048576) : MIntSS w s base w.heap.size := by
  obtain ⟨ss, h1, h2, h3⟩ := h
  refine ⟨ss, h1, by omega, fun r hr => ?_⟩
  obtain ⟨i, hi, rfl⟩ := List.mem_iff_getElem.1 hr
  have hiL : i < L.length := by omega
  have hO := h3 i ss[i] L[i] (by simp [hi]) (by simp [hiL])
  refine ⟨mint_of hO (hll _ (List.getElem_mem hiL)), fun b hb he => ?_⟩
  obtain ⟨c1, e1⟩ := hO.type (blkOf_own hO hb)
  obtain ⟨c2, e2⟩ := h1.type he
  rw [e1] at e2
  exact absurd (Obj.cells.inj (Option.some.inj e2)).2.1 (by decide)

theorem MIntSS.chg {w w' : World} {s : Sl} {lo hi : Nat} (h : MIntSS w s lo hi) (hS : Shp w w') {l2 h2 : Nat} (hC : Chg w w' (fun b => l2 ≤ b ∧ b < h2)) (hlo : h2 ≤ lo) : MIntSS w' s lo hi := by
  obtain ⟨ss, h1, h3, h4⟩ := h.ex
  exact ⟨ss, h1.chg hC fun b hb hD => by have := (h1.blk b hb).1; have := hD.2; omega, h3, fun r hr => ⟨(h4 r hr).1.shp hS, (h4 r hr).2⟩⟩

theorem MIntSS.ext {w w' : World} {s : Sl} {lo hi : Nat} (h : MIntSS w s lo hi) (hE : Ext w w') : MIntSS w' s lo hi := by
  obtain ⟨ss, h1, h3, h4⟩ := h.ex
  exact ⟨ss, h1.ext hE, h3, fun r hr => ⟨(h4 r hr).1.ext hE, (h4 r hr).2⟩⟩

theorem markIntSS_ok {w : World} {s : Sl} {lo hi : Nat} (h : MIntSS w s lo hi) (k : Int) (h0 : 0 ≤ k) (h1 : k ≤ 1125899906842624000) :
    Calls Tryz.prog F.l_markIntSS #[s.v, .int .i64 k] w (Ret [.at (.int .i64)] fun (r : Int) w' => 0 ≤ r ∧ r ≤ k + 1099511627776 ∧ Shp w w' ∧ Chg w w' (fun b => lo ≤ b ∧ b < hi)) := by
  obtain ⟨ss, hO, hl, hr⟩ := h.ex
  refine C_l_markIntSS ?_
  unfold V_l_markIntSS
  rw [hO.1]
  refine ⟨IN2 ss.length fun i r w' => 0 ≤ r ∧ r ≤ k + 1048576 * i ∧ Shp w w' ∧ Chg w w' (fun b => (lo ≤ b ∧ b < hi) ∧ s.v.ownBlock ≠ some b), MN2 ss.length, IN2_zero ⟨by omega, by omega, Shp.refl _, Chg.refl _ _⟩, ?_⟩
  rintro x _ w1 ⟨i, rfl, hi', hx0, hx1, hS, hC⟩
  intros
  refine cond_dec (fun hlt => ?_) (fun hge => ?_)
  · have hi2 : i < ss.length := by omega
    have hO1 : OwnL w1 lo T.t_sl_int s ss := hO.chg hC fun b hb hD => hD.2 hb
    refine (hO1.rep fun _ _ => trivial).ix (n := 1) rfl (by omega) (by omega) fun p cs hrep hc => ?_
    simp only [Int.toNat_natCast] at hrep
    have hcs : cs = [ss[i].v] := hrep
    subst hcs
    refine LD_sl (hc 0 _ rfl) ?_
    obtain ⟨hm, hb⟩ := hr _ (List.getElem_mem hi2)
    have hml := hm.len
    refine call (markIntS_wr (hm.wr.shp hS) x hx0 (by omega) hm.len) ?_
    rintro r w2 ⟨rfl, hS2, hC2⟩
    exact IN2_next (by omega) hi2 ⟨by omega, by omega, hS.trans hS2, hC.trans (hC2.mono fun b hb' => ⟨hm.blk b hb', hb b hb'⟩)⟩
  · have : i = ss.length := by omega
    subst this
    exact ⟨hx0, by omega, hS, hC.mono fun b hb => hb.1⟩

end Go.Proofs.YtaeledhbkdakcaaGreatDoor
end

section
/- Configurations: lists of labels in order, both sides. -/
namespace Go.Proofs.YtaeledhbkdakcaaGreatDoor
open Go.GX Go.RowKit
set_option maxRecDepth 100000

/-! ### Lists in the dictionary's order -/

def cmpL : List Int → List Int → Int
  | [], [] => 0
  | [], _ :: _ => -1
  | _ :: _, [] => 1
  | x :: a, y :: b => if x < y then -1 else if y < x then 1 else cmpL a b

theorem cmpL_zero : ∀ {a b : List Int}, cmpL a b = 0 ↔ a = b
  | [], [] => by simp [cmpL]
  | [], _ :: _ => by simp [cmpL]
  | _ :: _, [] => by simp [cmpL]
  | x :: a, y :: b => by
    rw [cmpL, List.cons.injEq, ← cmpL_zero (a := a) (b := b)]
    by_cases h1 : x < y
    · rw [if_pos h1]
      constructor
      · intro h; omega
      · intro h; omega
    · by_cases h2 : y < x
      · rw [if_neg h1, if_pos h2]
        constructor
        · intro h; omega
        · intro h; omega
      · rw [if_neg h1, if_neg h2]
        constructor
        · intro h; exact ⟨by omega, h⟩
        · intro h; exact h.2

theorem cmpL_trans : ∀ {a b c : List Int}, cmpL a b < 0 → cmpL b c < 0 → cmpL a c < 0
  | [], [], _, h, _ => by simp [cmpL] at h
  | [], _ :: _, [], _, h => by simp [cmpL] at h
  | [], _ :: _, _ :: _, _, _ => by simp [cmpL]
  | _ :: _, [], _, h, _ => by simp [cmpL] at h
  | _ :: _, _ :: _, [], _, h => by simp [cmpL] at h
  | x :: a, y :: b, z :: c, h, h' => by
    rw [cmpL] at h h' ⊢
    by_cases h1 : x < y
    · by_cases h2 : y < z
      · rw [if_pos (by omega)]; omega
      · rw [if_neg h2] at h'
        by_cases h3 : z < y
        · rw [if_pos h3] at h'; omega
        · rw [if_pos (by omega)]; omega
    · rw [if_neg h1] at h
      by_cases h4 : y < x
      · rw [if_pos h4] at h; omega
      · rw [if_neg h4] at h
        by_cases h2 : y < z
        · rw [if_pos (by omega)]; omega
        · rw [if_neg h2] at h'
          by_cases h3 : z < y
          · rw [if_pos h3] at h'; omega
          · rw [if_neg h3] at h'
            rw [if_neg (by omega), if_neg (by omega)]
            exact cmpL_trans h h'

/-- What is asked of a list of configurations. -/
structure ConfOk (L : List (List Int)) (size labels : Int) : Prop where
  row : ∀ i (h : i < L.length), (L[i].length : Int) = size ∧ L[i].Pairwise (· ≤ ·) ∧ AllIn L[i] 0 (labels - 1)
  rise : ∀ i (h : i + 1 < L.length), cmpL L[i] L[i + 1] < 0

theorem ConfOk.lt {L : List (List Int)} {size labels : Int} (h : ConfOk L size labels) : ∀ j i (_ : i < j) (hj : j < L.length), cmpL (L[i]'(by omega)) L[j] < 0 := by
  intro j
  induction j with
  | zero => intro i hi; omega
  | succ j ih =>
    intro i hi hj
    have h1 := h.rise j hj
    rcases Nat.lt_or_eq_of_le (Nat.le_of_lt_succ hi) with h2 | h2
    · exact cmpL_trans (ih i h2 (by omega)) h1
    · subst h2; exact h1

/-! ### Comparing -/

theorem isNaN_ok (x : Int) (w : World) : Calls Tryz.prog F.cmp_isNaN_int #[.int .i64 x] w (Ret [.at .bool] fun (b : Bool) w' => b = false ∧ w = w') := by
  refine C_cmp_isNaN_int ?_
  unfold V_cmp_isNaN_int
  exact ⟨by simp, rfl⟩

theorem cmpCompare_ok (x y : Int) (w : World) : Calls Tryz.prog F.cmp_Compare_int #[.int .i64 x, .int .i64 y] w (Ret [.at (.int .i64)] fun (r : Int) w' => r = (if x < y then -1 else if y < x then 1 else 0) ∧ w = w') := by
  refine C_cmp_Compare_int ?_
  unfold V_cmp_Compare_int
  refine call (isNaN_ok _ _) ?_
  rintro _ _ ⟨rfl, rfl⟩
  refine call (isNaN_ok _ _) ?_
  rintro _ _ ⟨rfl, rfl⟩
  refine cond_b (fun h => by cases h) (fun _ => cond_b (fun h => by cases h) (fun _ => ?_))
  refine cond_dec (fun h => ⟨by rw [if_pos h], rfl⟩) (fun h => cond_dec (fun h2 => ⟨by rw [if_neg h, if_pos h2], rfl⟩) (fun h2 => ⟨by rw [if_neg h, if_neg h2], rfl⟩))

theorem compare_ok {w : World} {s t : Sl} {a b : List Int} (ha : R w s a) (hb : R w t b) :
    Calls Tryz.prog F.slices_Compare_sl_int_int #[s.v, t.v] w (Ret [.at (.int .i64)] fun (r : Int) w' => r = cmpL a b ∧ w = w') := by
  refine C_slices_Compare_sl_int_int ?_
  unfold V_slices_Compare_sl_int_int
  rw [ha.len, hb.len]
  refine ⟨IN a.length fun i w' => w = w' ∧ i ≤ b.length ∧ cmpL a b = cmpL (a.drop i) (b.drop i), MN a.length, IN_zero ⟨rfl, by omega, by simp⟩, ?_⟩
  rintro _ _ ⟨i, rfl, hi, rfl, hib, he⟩
  intros
  refine cond_dec (fun hlt => ?_) (fun hge => ?_)
  · have hi' : i < a.length := by omega
    have hda : a.drop i = a[i] :: a.drop (i + 1) := List.drop_eq_getElem_cons hi'
    refine ha.ixI hi' fun q _ hc => LD_int hc ?_
    refine cond_dec (fun hge => ⟨?_, rfl⟩) (fun hlt2 => ?_)
    · have hdb0 : b.drop i = [] := List.drop_of_length_le (by omega)
      rw [he, hda, hdb0]; rfl
    have hi2 : i < b.length := by omega
    have hdb : b.drop i = b[i] :: b.drop (i + 1) := List.drop_eq_getElem_cons hi2
    refine hb.ixI hi2 fun q _ hc => LD_int hc ?_
    refine call (cmpCompare_ok _ _ _) ?_
    rintro _ _ ⟨rfl, rfl⟩
    rw [hda, hdb, cmpL] at he
    refine cond_ne (fun hne => ⟨?_, rfl⟩) (fun heq => ?_)
    · rw [he]
      by_cases h1 : a[i] < b[i]
      · rw [if_pos h1, if_pos h1]
      · by_cases h2 : b[i] < a[i]
        · rw [if_neg h1, if_pos h2, if_neg h1, if_pos h2]
        · rw [if_neg h1, if_neg h2] at hne; exact absurd rfl hne
    · have h1 : ¬ a[i] < b[i] := fun h => by
        have heq' : (if a[i] < b[i] then (-1 : Int) else if b[i] < a[i] then 1 else 0) = 0 := heq
        rw [if_pos h] at heq'; omega
      have h2 : ¬ b[i] < a[i] := fun h => by
        have heq' : (if a[i] < b[i] then (-1 : Int) else if b[i] < a[i] then 1 else 0) = 0 := heq
        rw [if_neg h1, if_pos h] at heq'; omega
      rw [if_neg h1, if_neg h2] at he
      exact IN_next ha.le hi' ⟨rfl, by omega, he⟩
  · have : i = a.length := by omega
    subst this
    rw [List.drop_length] at he
    refine cond_dec (fun hlt => ⟨?_, rfl⟩) (fun hge2 => ⟨?_, rfl⟩)
    · have hi2 : a.length < b.length := by omega
      rw [he, List.drop_eq_getElem_cons hi2]; rfl
    · rw [he, List.drop_of_length_le (by omega)]; rfl

/-! ### The reference's side -/

theorem l1Sign_ok (n : Int) (w : World) : Calls Tryz.prog F.s_l1Sign #[.int .i64 n] w (Ret [.at (.int .i64)] fun (r : Int) w' => r = (if n < 0 then -1 else if 0 < n then 1 else 0) ∧ w = w') := by
  refine C_s_l1Sign ?_
  unfold V_s_l1Sign
  refine cond_dec (fun h => ⟨by rw [if_neg (by omega), if_pos h], rfl⟩) (fun h => cond_dec (fun h2 => ⟨by rw [if_pos h2], rfl⟩) (fun h2 => ⟨by rw [if_neg h2, if_neg h], rfl⟩))

theorem prOrder_ok {w : World} {s t : Sl} {a b : List Int} (ha : R w s a) (hb : R w t b) (hl : a.length = b.length) {c : Int} (hc8 : c ≤ 1000) (hA : AllIn a 0 c) (hB : AllIn b 0 c) :
    Calls Tryz.prog F.s_prOrder #[s.v, t.v] w (Ret [.at (.int .i64)] fun (r : Int) w' => r = cmpL a b ∧ w = w') := by
  refine C_s_prOrder ?_
  unfold V_s_prOrder
  rw [ha.len]
  refine ⟨IN a.length fun i w' => w = w' ∧ cmpL a b = cmpL (a.drop i) (b.drop i), MN a.length, IN_zero ⟨rfl, by simp⟩, ?_⟩
  rintro _ _ ⟨i, rfl, hi, rfl, he⟩
  intros
  refine cond_dec (fun hlt => ?_) (fun hge => ?_)
  · have hi' : i < a.length := by omega
    have hi2 : i < b.length := by omega
    have hda : a.drop i = a[i] :: a.drop (i + 1) := List.drop_eq_getElem_cons hi'
    have hdb : b.drop i = b[i] :: b.drop (i + 1) := List.drop_eq_getElem_cons hi2
    have h1 := hA _ (List.getElem_mem hi')
    have h2 := hB _ (List.getElem_mem hi2)
    rw [hda, hdb, cmpL] at he
    refine ha.ixI hi' fun q _ hc => LD_int hc ?_
    refine hb.ixI hi2 fun q _ hc => LD_int hc ?_
    refine cond_ne (fun hne => ?_) (fun heq => ?_)
    · refine hb.ixI hi2 fun q _ hc => LD_int hc ?_
      rw [wrap_of (by omega) (by omega)]
      refine call (l1Sign_ok _ _) ?_
      rintro _ _ ⟨rfl, rfl⟩
      refine ⟨?_, rfl⟩
      rw [he]
      by_cases h3 : a[i] < b[i]
      · rw [if_pos h3, if_pos (by omega)]
      · have hne' : a[i] ≠ b[i] := hne
        rw [if_neg h3, if_neg (by omega), if_pos (by omega), if_pos (by omega)]
    · have heq' : a[i] = b[i] := heq
      rw [if_neg (by omega), if_neg (by omega)] at he
      exact IN_next ha.le hi' ⟨rfl, he⟩
  · have : i = a.length := by omega
    subst this
    rw [List.drop_length, List.drop_of_length_le (by omega)] at he
    exact ⟨he.symm, rfl⟩

end Go.Proofs.YtaeledhbkdakcaaGreatDoor
end

section
/- Problems: their configurations looked up, what is asked of them, both sides. -/
namespace Go.Proofs.YtaeledhbkdakcaaGreatDoor
open Go.GX Go.RowKit
set_option maxRecDepth 100000

/-! ### Looking up -/

/-! ### The reference's looking up -/

end Go.Proofs.YtaeledhbkdakcaaGreatDoor
end

section
/- Arguments that come in, read as data: from the statements' own reading of memory to the rules' reading. No program is named here. -/
namespace Go.GX
open Go.RowKit Go.WideShapes Go.ChangeShapes Go.ChangeAt Go.Deep

/-- Whatever the statements read at type t is data of α in memory. -/
def Reads (P : Program) (t : TypeId) (α : Type) [Rep α] : Prop :=
  ∀ {H : Type} {enc : TypeId × Value → H} {w : World} {base : Nat} {spare : Nat → Bool} {held : Bool} {fuel : Nat} {cs : List Value} {x : DataW H × List MemPlace},
    DataW.trod enc P w base spare held fuel t cs = some x → ∃ a : α, Rep.rep (fun _ => True) w cs a

theorem Reads.int {P : Program} {t : TypeId} (ht : P.underlying t = some (.int .i64)) : Reads P t Int := fun h => by
  obtain ⟨n, rfl, _, hn⟩ := DataW.trod_int ht h
  exact ⟨n, rfl, bounds_i64 hn⟩

theorem Reads.slice {P : Program} {t e : TypeId} {α : Type} [RepP α] (ht : P.underlying t = some (.slice e)) (hc : P.cellsOf e = Rep.sz α) (he : Reads P e α) : Reads P t (List α) := by
  intro H enc w base spare held fuel cs x h
  rcases open_slice ht h with ⟨rfl, _⟩ | ⟨a, len, cap, m, n, D, Pl, rfl, hb, hl, hm, hmm, _, hx⟩
  · exact ⟨[], ⟨none, 0, 0⟩, rfl, rfl, ⟨Nat.le_refl _, Nat.zero_le _⟩, fun i x hx => by simp at hx⟩
  · have hlm : len ≤ m := by rw [hmm]; split <;> omega
    have hall : ∀ i : Fin len, ∃ z : α, ∃ cs', Rep.rep (fun _ => True) w cs' z ∧ ∀ j v, cs'[j]? = some v → w.cell? (a.add (i.1 * Rep.sz α + j)) = some v := fun i => by
      obtain ⟨cs', h1, h2⟩ := hx i.1 (by omega)
      obtain ⟨z, hz⟩ := he h2
      refine ⟨z, cs', hz, fun j v hj => ?_⟩
      obtain ⟨_, hlen, hcell⟩ := World.cells?_some h1
      have hj' : j < cs'.length := (List.getElem?_eq_some_iff.1 hj).1
      have := hcell j (by omega)
      rw [hj, add_add, hc] at this
      exact this
    refine ⟨List.ofFn fun i => (hall i).choose, ⟨some a, len, cap⟩, rfl, by simp, ⟨hl, by simpa [maxLen] using hm⟩, fun i x hx => ?_⟩
    rw [List.getElem?_ofFn] at hx
    split at hx
    · rename_i hi
      simp at hx
      subst hx
      obtain ⟨cs', h1, h2⟩ := (hall ⟨i, hi⟩).choose_spec
      exact ⟨a, cs', rfl, trivial, h1, h2⟩
    · cases hx

/-- A struct type whose fields have these types, each one cell, one after the other. -/
def fieldsB (P : Program) (t : TypeId) (ts : List TypeId) : Bool :=
  (match P.underlying t with | some (.struct fs) => fs.toList.map (fun f => (f.type, f.offset)) == ts.zipIdx | _ => false) && ts.all (fun u => P.cellsOf u == 1) && P.cellsOf t == ts.length

theorem fieldsB_struct {P : Program} {t : TypeId} {ts : List TypeId} (h : fieldsB P t ts = true) :
    ∃ fs, P.underlying t = some (.struct fs) ∧ fs.toList.map (fun f => (f.type, f.offset)) = ts.zipIdx ∧ (∀ u ∈ ts, P.cellsOf u = 1) ∧ P.cellsOf t = ts.length := by
  simp only [fieldsB, Bool.and_eq_true, List.all_eq_true, beq_iff_eq] at h
  obtain ⟨⟨h1, h2⟩, h3⟩ := h
  cases hu : P.underlying t with
  | none => rw [hu] at h1; cases h1
  | some u =>
    rw [hu] at h1
    cases u with
    | struct fs => exact ⟨fs, rfl, by simpa using h1, h2, h3⟩
    | _ => cases h1

theorem trod_fields {P : Program} {t : TypeId} {ts : List TypeId} (h : fieldsB P t ts = true) {H : Type} {enc : TypeId × Value → H} {w : World} {base : Nat} {spare : Nat → Bool} {held : Bool} {fuel : Nat} {cs : List Value} {x : DataW H × List MemPlace}
    (hx : DataW.trod enc P w base spare held fuel t cs = some x) : cs.length = ts.length ∧ ∀ (i : Nat) (u : TypeId), ts[i]? = some u → ∃ v n y, cs[i]? = some v ∧ DataW.trod enc P w base spare held n u [v] = some y := by
  obtain ⟨fs, hu, hm, h1, hc⟩ := fieldsB_struct h
  obtain ⟨xs, n, _, _, hl, hlen, hf⟩ := DataW.trod_struct hu hx
  refine ⟨hl.trans hc, fun i u hi => ?_⟩
  have hi' : i < ts.length := (List.getElem?_eq_some_iff.1 hi).1
  have hfl : fs.size = ts.length := by have := congrArg List.length hm; simpa using this
  have hg : (fs.toList.map (fun f => (f.type, f.offset)))[i]? = some (u, i) := by rw [hm]; simp [List.getElem?_zipIdx, hi]
  have hif : i < fs.size := by omega
  have hfi : fs[i]? = some fs[i] := by simp [hif]
  rw [List.getElem?_map] at hg
  simp [hif] at hg
  have := hf i fs[i] hfi
  have hci : i < cs.length := by omega
  rw [hg.1, hg.2, h1 u (List.mem_of_getElem? hi), List.drop_eq_getElem_cons hci, List.take_succ_cons, List.take_zero] at this
  refine ⟨cs[i], n, xs[i]'(by omega), by simp [hci], ?_⟩
  rw [this]; simp

/-- An argument that is a slice. -/
theorem open_list {P : Program} {t e : TypeId} {α : Type} [RepP α] (ht : P.underlying t = some (.slice e)) (hR : Reads P t (List α)) {H : Type} {enc : TypeId × Value → H} {w : World} {base b0 : Nat} {spare : Nat → Bool} {held : Bool} {r : Go.Reach} {v : Value} {d : DataW H} {p : List MemPlace}
    (hv : Value.okWide P w r b0 t v) (h : DataW.Trod enc P w base spare held t v d p) : ∃ (s : Sl) (l : List α), v = s.v ∧ R w s l := by
  obtain ⟨a, len, cap, rfl⟩ := okWide_slice ht hv
  obtain ⟨fuel, hf⟩ := h
  obtain ⟨l, s, hs, hl⟩ := hR hf
  simp [Value.cells] at hs
  obtain ⟨rfl, rfl, rfl⟩ := hs
  exact ⟨s, l, rfl, hl⟩

/-- Arguments read again behind a call that wrote nothing of theirs. -/
theorem trodAll_stays {P : Program} (hl : laidOutB P = true) {H : Type} {enc : TypeId × Value → H} {W W' : World} (hb : Below W.heap.size W W') : ∀ (ts : List TypeId) (vs : List Value) (ds : List (DataW H)) (p : List MemPlace),
    (ts.all fun t => P.readableRec t && decide (t < P.types.size)) = true → DataW.TrodAll enc P W 0 (fun _ => true) true ts vs ds p → DataW.TrodAll enc P W' 0 (fun b => decide (b < W.heap.size)) true ts vs ds p
  | [], vs, ds, p, _, h => by
    obtain ⟨rfl, rfl, rfl⟩ := trodAll_nil h
    exact trodAll_mk0
  | t :: ts, vs, ds, p, ha, h => by
    simp only [List.all_cons, Bool.and_eq_true, decide_eq_true_eq] at ha
    obtain ⟨v, vs', d, ds', p', q', rfl, rfl, rfl, h1, h2⟩ := trodAll_cons h
    refine trodAll_cons_mk (Below.trod hl ha.1.1 ha.1.2 h1 hb ?_) (trodAll_stays hl hb ts vs' ds' q' ha.2 h2)
    obtain ⟨m, hm⟩ := h1
    exact DataW.trod_lt m _ _ _ hm

end Go.GX
end

section
/- The laws' arguments read as data: the types of this program. -/
namespace Go.Proofs.YtaeledhbkdakcaaGreatDoor
open Go.GX Go.RowKit
set_option maxRecDepth 100000

theorem laidOut : laidOutB Tryz.prog = true := by kernel_rfl

theorem reads_int : Reads Tryz.prog T.t_int Int := Reads.int (by kernel_rfl)
theorem reads_ints : Reads Tryz.prog T.t_sl_int (List Int) := Reads.slice (e := T.t_int) (by kernel_rfl) (by kernel_rfl) reads_int

variable {H : Type} {enc : TypeId × Value → H} {w : World} {base b0 : Nat} {spare : Nat → Bool} {held : Bool} {r : Go.Reach} {v : Value} {d : DataW H} {p : List MemPlace}

theorem open_L (hv : Value.okWide Tryz.prog w r b0 T.t_sl_int v) (h : DataW.Trod enc Tryz.prog w base spare held T.t_sl_int v d p) : ∃ (s : Sl) (l : List Int), v = s.v ∧ R w s l :=
  open_list (e := T.t_int) (by kernel_rfl) reads_ints hv h

theorem reads_intss : Reads Tryz.prog T.t_sl_sl_int (List (List Int)) := Reads.slice (e := T.t_sl_int) (by kernel_rfl) (by kernel_rfl) reads_ints

end Go.Proofs.YtaeledhbkdakcaaGreatDoor
end

section
/- Problems as arguments: read, counted, copied, held against each other, marked. -/
namespace Go.Proofs.YtaeledhbkdakcaaGreatDoor
open Go.GX Go.RowKit
set_option maxRecDepth 100000

structure Prob where
  labels : Int
  degree : Int
  nodes : List (List Int)
  edges : List (List Int)

/-- The slices of a problem read as its configurations. -/
structure RProb (w : World) (c d : Sl) (p : Prob) : Prop where
  labels : I64 p.labels
  degree : I64 p.degree
  nodes : R w c p.nodes
  edges : R w d p.edges

theorem RProb.ext {w w' : World} {c d : Sl} {p : Prob} (h : RProb w c d p) (hE : Ext w w') : RProb w' c d p := ⟨h.labels, h.degree, h.nodes.ext hE, h.edges.ext hE⟩

/-- A problem of the call's own: its lists of configurations lie apart. -/
structure OwnProb (w : World) (lo mid hi : Nat) (z u : Sl) (p : Prob) : Prop where
  nodes : Own2 w lo T.t_int T.t_sl_int z p.nodes
  edges : Own2 w mid T.t_int T.t_sl_int u p.edges
  mnodes : MIntSS w z lo mid
  medges : MIntSS w u mid hi
  lom : lo ≤ mid
  mhi : mid ≤ hi
  top : hi ≤ w.heap.size

theorem OwnProb.ext {w w' : World} {lo mid hi : Nat} {z u : Sl} {p : Prob} (h : OwnProb w lo mid hi z u p) (hE : Ext w w') : OwnProb w' lo mid hi z u p :=
  ⟨h.nodes.ext hE, h.edges.ext hE, h.mnodes.ext hE, h.medges.ext hE, h.lom, h.mhi, Nat.le_trans h.top hE.size_le⟩
theorem OwnProb.prob {w w0 : World} {lo mid hi : Nat} {c d z u : Sl} {p : Prob} (h : OwnProb w lo mid hi z u p) (h0 : RProb w0 c d p) : RProb w z u p :=
  ⟨h0.labels, h0.degree, h.nodes.rep (flat_okII h0.nodes), h.edges.rep (flat_okII h0.edges)⟩

variable {H : Type} {enc : TypeId × Value → H} {w : World} {base b0 : Nat} {spare : Nat → Bool} {held : Bool} {r : Go.Reach} {v : Value} {d : DataW H} {p : List MemPlace}

/-! ### What is asked of a problem -/

structure PGood (p : Prob) : Prop where
  lab : 1 ≤ p.labels ∧ p.labels ≤ 8
  deg : 1 ≤ p.degree ∧ p.degree ≤ 4
  nodes : ConfOk p.nodes p.degree p.labels
  edges : ConfOk p.edges 2 p.labels

/-! ### Configurations that are allowed -/

def NodeOk (p : Prob) (l : List Int) : Prop := sortI l ∈ p.nodes
def EdgeIs (p : Prob) (a b : Int) : Prop := sortI [a, b] ∈ p.edges

end Go.Proofs.YtaeledhbkdakcaaGreatDoor
end

section
/- Colourings of edges, on both sides. -/
namespace Go.Proofs.YtaeledhbkdakcaaGreatDoor
open Go.GX Go.RowKit
set_option maxRecDepth 100000

def at2 (l : List (List Int)) (v i : Nat) : Int := (l.getD v []).getD i 0

/-- As many rows as nodes, each as long as the node has ports. -/
def SameRows (E : List (List (Int × Int))) (l : List (List Int)) : Prop := l.length = E.length ∧ ∀ v < l.length, (l.getD v []).length = (E.getD v []).length

def EdgeAt (E : List (List (Int × Int))) (l : List (List Int)) (v i : Nat) : Prop :=
  at2 l ((E.getD v []).getD i (0, 0)).1.toNat ((E.getD v []).getD i (0, 0)).2.toNat = at2 l v i

structure EdgeOk (E : List (List (Int × Int))) (l : List (List Int)) : Prop where
  rows : SameRows E l
  cols : ∀ v < l.length, AllIn (l.getD v []) 0 1000000000000 ∧ (l.getD v []).Nodup
  ends : ∀ v < l.length, ∀ i < (E.getD v []).length, EdgeAt E l v i

theorem rowD {α : Type} {l : List (List α)} {v : Nat} (hv : v < l.length) : l.getD v [] = l[v] := by
  rw [List.getD_eq_getElem?_getD, List.getElem?_eq_getElem hv]; rfl
end Go.Proofs.YtaeledhbkdakcaaGreatDoor
end

section
/- Faults of labelings, in plain words: no program in sight. -/
namespace Go.Proofs.YtaeledhbkdakcaaGreatDoor

def NodeBad (p : Prob) (L : List (List Int)) (v : Nat) : Prop := ((L.getD v []).length : Int) = p.degree ∧ ¬ NodeOk p (L.getD v [])
def endOf (E : Ends) (v k : Nat) : Int × Int := (E.getD v []).getD k (0, 0)
def PortBad (p : Prob) (E : Ends) (L : List (List Int)) (v k : Nat) : Prop := k < (E.getD v []).length ∧ isFirst v k (endOf E v k) = true ∧ ¬ EdgeIs p (at2 L v k) (at2 L (endOf E v k).1.toNat (endOf E v k).2.toNat)
def NoneAt (p : Prob) (E : Ends) (L : List (List Int)) (v : Nat) : Prop := ¬ NodeBad p L v ∧ ∀ k, ¬ PortBad p E L v k
def Clean (p : Prob) (E : Ends) (L : List (List Int)) : Prop := ∀ v < E.length, NoneAt p E L v
def FirstAt (p : Prob) (E : Ends) (L : List (List Int)) (v i : Int) : Prop := ∃ m : Nat, v = m ∧ m < E.length ∧ (∀ u < m, NoneAt p E L u) ∧
  ((i = -1 ∧ NodeBad p L m) ∨ ∃ k : Nat, i = k ∧ ¬ NodeBad p L m ∧ PortBad p E L m k ∧ ∀ j < k, ¬ PortBad p E L m j)

theorem FirstAt.bad {p : Prob} {E : Ends} {L : List (List Int)} {v i : Int} (h : FirstAt p E L v i) : ¬ Clean p E L := fun hc => by
  obtain ⟨m, _, hm, _, h⟩ := h
  obtain ⟨h1, h2⟩ := hc m hm
  rcases h with ⟨_, h⟩ | ⟨k, _, _, h, _⟩
  · exact h1 h
  · exact h2 k h

theorem FirstAt.eq {p : Prob} {E : Ends} {L : List (List Int)} {v i v' i' : Int} (h : FirstAt p E L v i) (h' : FirstAt p E L v' i') : v = v' ∧ i = i' := by
  obtain ⟨m, rfl, hm, hn, hb⟩ := h
  obtain ⟨m', rfl, hm', hn', hb'⟩ := h'
  have key : ∀ {m : Nat} {i : Int}, NoneAt p E L m → ((i = -1 ∧ NodeBad p L m) ∨ ∃ k : Nat, i = k ∧ ¬ NodeBad p L m ∧ PortBad p E L m k ∧ ∀ j < k, ¬ PortBad p E L m j) → False := by
    rintro m i ⟨h1, h2⟩ (⟨_, h⟩ | ⟨k, _, _, h, _⟩)
    · exact h1 h
    · exact h2 k h
  rcases Nat.lt_trichotomy m m' with hlt | heq | hgt
  · exact (key (hn' m hlt) hb).elim
  · subst heq
    refine ⟨rfl, ?_⟩
    rcases hb with ⟨rfl, h1⟩ | ⟨k, rfl, h1, h2, h3⟩
    · rcases hb' with ⟨rfl, _⟩ | ⟨k', rfl, h1', _⟩
      · rfl
      · exact absurd h1 h1'
    · rcases hb' with ⟨rfl, h1'⟩ | ⟨k', rfl, _, h2', h3'⟩
      · exact absurd h1' h1
      · rcases Nat.lt_trichotomy k k' with hlt | heq | hgt
        · exact absurd h2 (h3' k hlt)
        · rw [heq]
        · exact absurd h2' (h3 k' hgt)
  · exact (key (hn m' hgt) hb').elim

/-- What is asked of a labeling. -/
structure LabOk (p : Prob) (E : Ends) (L : List (List Int)) : Prop where
  rows : SameRows E L
  labs : ∀ r ∈ L, AllIn r 0 (p.labels - 1)

structure SolAsked (p : Prob) (n : Net) (L : List (List Int)) : Prop where
  prob : PGood p
  good : Good n
  lab : LabOk p n.ends L

structure AnsFF (p : Prob) (n : Net) (L : List (List Int)) (v i : Int) (b : Bool) : Prop where
  ok : b = true ↔ SolAsked p n L ∧ ¬ Clean p n.ends L
  yes : b = true → FirstAt p n.ends L v i
  no : b = false → v = 0 ∧ i = 0

theorem AnsFF.eq {p : Prob} {n : Net} {L : List (List Int)} {v i v' i' : Int} {b b' : Bool} (h : AnsFF p n L v i b) (h' : AnsFF p n L v' i' b') : v = v' ∧ i = i' ∧ b = b' := by
  have hoo : b = b' := by rw [Bool.eq_iff_iff, h.ok, h'.ok]
  subst hoo
  cases b with
  | false =>
    obtain ⟨rfl, rfl⟩ := h.no rfl
    obtain ⟨rfl, rfl⟩ := h'.no rfl
    exact ⟨rfl, rfl, rfl⟩
  | true =>
    obtain ⟨rfl, rfl⟩ := (h.yes rfl).eq (h'.yes rfl)
    exact ⟨rfl, rfl, rfl⟩

theorem AnsFF.none {p : Prob} {n : Net} {L : List (List Int)} (h : ¬ (SolAsked p n L ∧ ¬ Clean p n.ends L)) : AnsFF p n L 0 0 false := ⟨by simp only [Bool.false_eq_true, false_iff]; exact h, fun hh => (by cases hh), fun _ => ⟨rfl, rfl⟩⟩

end Go.Proofs.YtaeledhbkdakcaaGreatDoor
end

section
/- Label maps, in plain words: no program in sight. -/
namespace Go.Proofs.YtaeledhbkdakcaaGreatDoor

/-- The images of labels. -/
def img (f l : List Int) : List Int := l.map fun a => f.getD a.toNat 0

structure MapOk (p q : Prob) (f : List Int) : Prop where
  len : (f.length : Int) = p.labels
  labs : AllIn f 0 (q.labels - 1)
  nodes : ∀ c ∈ p.nodes, sortI (img f c) ∈ q.nodes
  edges : ∀ c ∈ p.edges, sortI (img f c) ∈ q.edges

structure MlAsked (p q : Prob) (f : List Int) (n : Net) (L : List (List Int)) : Prop where
  left : PGood p
  right : PGood q
  deg : p.degree = q.degree
  map : MapOk p q f
  good : Good n
  lab : LabOk p n.ends L

end Go.Proofs.YtaeledhbkdakcaaGreatDoor
end

section
/- Labelings and their first faults, both sides. -/
namespace Go.Proofs.YtaeledhbkdakcaaGreatDoor
open Go.GX Go.RowKit
set_option maxRecDepth 100000

/-! ### The first fault -/

structure FaultIn (p : Prob) (n : Net) (L : List (List Int)) : Prop where
  prob : PGood p
  good : Good n
  lab : LabOk p n.ends L

theorem SolAsked.fin {p : Prob} {n : Net} {L : List (List Int)} (h : SolAsked p n L) : FaultIn p n L := ⟨h.prob, h.good, h.lab⟩

theorem FaultIn.row {p : Prob} {n : Net} {L : List (List Int)} (h : FaultIn p n L) {v : Nat} (hv : v < L.length) (hve : v < n.ends.length) : L[v].length = n.ends[v].length ∧ (∀ x ∈ L[v], I64 x) ∧ L[v].length ≤ 6 := by
  have h1 := h.lab.rows.2 v hv
  rw [rowD hv, rowD hve] at h1
  have h2 := h.good.deg hve
  refine ⟨h1, fun x hx => ?_, by omega⟩
  have := h.lab.labs _ (List.getElem_mem hv) x hx
  have := h.prob.lab
  unfold I64; omega

/-! ### The statements' answers -/

end Go.Proofs.YtaeledhbkdakcaaGreatDoor
end

section
/- Label maps, both sides. -/
namespace Go.Proofs.YtaeledhbkdakcaaGreatDoor
open Go.GX Go.RowKit
set_option maxRecDepth 100000

theorem img_len (f l : List Int) : (img f l).length = l.length := by simp [img]
theorem images_ok {w : World} {s t : Sl} {f m : List Int} (hm : R w s m) (hf : R w t f) (hin : ∀ x ∈ m, ∃ u : Nat, x = u ∧ u < f.length) (hml : m.length ≤ 1048576) :
    Calls Tryz.prog F.i_images #[s.v, t.v] w (Ret [.at .sl] fun (r : Sl) w' => Ext w w' ∧ OwnL w' w.heap.size T.t_int r (img f m)) := by
  refine C_i_images ?_
  unfold V_i_images
  rw [hm.len]
  refine ⟨IN2 m.length fun i out w' => Ext w w' ∧ OwnL w' w.heap.size T.t_int out (img f (m.take i)), MN2 m.length, IN2_zero ⟨Ext.refl _, by simpa [img] using OwnL.nil _ _ _⟩, ?_⟩
  rintro out _ w2 ⟨i, rfl, hi, hE, hO⟩
  intros
  replace hf := hf.ext hE
  replace hm := hm.ext hE
  refine cond_dec (fun hlt => ?_) (fun hge => ?_)
  · have hi' : i < m.length := by omega
    refine hm.ixI hi' fun q _ hc => LD_int hc ?_
    obtain ⟨u, hu, hul⟩ := hin _ (List.getElem_mem hi')
    rw [hu]
    refine hf.ixI hul fun q h64 hc => LD_int hc ?_
    refine RUN_lit1 (α := Int) slt_int f[u] rfl (by decide) fun r w5 hE5 hO5 => ?_
    replace hE := hE.ext hE5
    replace hO := hO.ext hE5
    refine RUN_append (α := Int) slt_int hO hE.size_le (hO5.rep (by intro z hz; simp at hz; subst hz; exact h64)).any (by simp [img_len]; omega) (by simp [img_len, maxLen]; omega) fun r' w6 hO6 hs6 => ?_
    refine IN2_next hm.le hi' ⟨hs6.ext0 hE (fun k hk => (hO.blk k hk).1), ?_⟩
    unfold img at hO6 ⊢
    rw [map_take_succ hi', hu]
    simpa [hul] using hO6
  · have : i = m.length := by omega
    subst this
    exact ⟨hE, by simpa using hO⟩

/-! ### Two problems -/

def TwoOk (p q : Prob) : Prop := PGood p ∧ PGood q ∧ p.degree = q.degree

/-! ### Whether it is a label map: the reference -/

/-! ### The statement's answers -/

theorem MlAsked.of {p q : Prob} {f : List Int} {n : Net} {L : List (List Int)} (h1 : TwoOk p q) (h2 : MapOk p q f) (h3 : Good n) (h4 : LabOk p n.ends L) : MlAsked p q f n L := ⟨h1.1, h1.2.1, h1.2.2, h2, h3, h4⟩

end Go.Proofs.YtaeledhbkdakcaaGreatDoor
end

section
/- The reference's distances from a node. -/
namespace Go.Proofs.YtaeledhbkdakcaaGreatDoor
open Go.GX Go.RowKit
set_option maxRecDepth 100000

/-- What the search keeps in memory: distances, queue, apart from each other. -/
structure BfsMem (w1 w' : World) (b1 b2 : Nat) (E : Ends) (v : Nat) (sD sW : Sl) (D W : List Int) (k : Nat) : Prop where
  ext : Ext w1 w'
  dist : OwnL w' b1 T.t_int sD D
  queue : OwnL w' b2 T.t_int sW W
  bfs : Bfs E v W D k
  lo1 : w1.heap.size ≤ b1
  lo12 : b1 ≤ b2
  lo2 : b2 ≤ w'.heap.size
  sep : ∀ g, sD.v.ownBlock = some g → g < b2

theorem BfsMem.next {w1 w' w'' : World} {b1 b2 : Nat} {E : Ends} {v : Nat} {sD sW : Sl} {D W : List Int} {k : Nat} (h : BfsMem w1 w' b1 b2 E v sD sW D W k) (hE : Ext w' w'') : BfsMem w1 w'' b1 b2 E v sD sW D W k :=
  { h with ext := h.ext.trans hE, dist := h.dist.ext hE, queue := h.queue.ext hE, lo2 := Nat.le_trans h.lo2 hE.size_le }

end Go.Proofs.YtaeledhbkdakcaaGreatDoor
end

section
/- Dominating sets: both sides' tests. -/
namespace Go.Proofs.YtaeledhbkdakcaaGreatDoor
open Go.GX Go.RowKit
set_option maxRecDepth 100000

/-! ### The program's side -/

def upTo (n : Nat) : List Int := (List.range n).map fun (k : Nat) => (k : Int)

theorem upTo_len (n : Nat) : (upTo n).length = n := by simp [upTo]
theorem upTo_ok (n : Nat) (hn : n ≤ 1048576) : ∀ x ∈ upTo n, Flat.ok x := fun x hx => by
  obtain ⟨k, hk, rfl⟩ := List.mem_map.1 hx
  have := List.mem_range.1 hk
  show I64 _
  unfold I64
  omega

theorem numbersTo_ok (n : Nat) (hn : n ≤ 1048576) (w : World) :
    Calls Tryz.prog F.i_numbersTo #[.int .i64 n] w (Ret [.at .sl] fun (r : Sl) w' => Ext w w' ∧ OwnL w' w.heap.size T.t_int r (upTo n)) := by
  refine C_i_numbersTo ?_
  unfold V_i_numbersTo
  refine RUN_make (α := Int) slt_int (d := 0) rfl (by omega) (by unfold maxLen; omega) fun s w1 hE1 hO1 => ?_
  have hsl : s.len = n := by have := hO1.1; simpa using this
  rw [hsl]
  have hul := upTo_len n
  refine ⟨IN n fun i w' => Ext w w' ∧ OwnL w' w.heap.size T.t_int s ((upTo n).take i ++ List.replicate (n - i) 0), MN n, IN_zero ⟨hE1, by simpa using hO1⟩, ?_⟩
  rintro _ w2 ⟨i, rfl, hi, hE, hO⟩
  intros
  refine cond_dec (fun hlt => ?_) (fun hge => ?_)
  · have hi' : i < n := by omega
    have hfl : ((upTo n).take i ++ List.replicate (n - i) 0).length = n := by simp [hul]; omega
    refine IX_own hO (by rw [hfl]; exact hi') rfl fun q hq => ?_
    refine ST_own hO (by rw [hfl]; exact hi') hq (i : Int) rfl fun w3 hO3 hs3 => ?_
    refine IN_next (by omega) hi' ⟨hs3.ext0 hE (fun k hk => (hO.blk k hk).1), ?_⟩
    have hf := fill_step (l := upTo n) (i := i) (by rw [hul]; exact hi') 0
    have hui : (upTo n)[i]'(by rw [hul]; exact hi') = (i : Int) := by simp [upTo]
    rw [hui, hul] at hf
    rw [← hf]
    exact hO3
  · have : i = n := by omega
    subst this
    refine ⟨hE, ?_⟩
    have h1 : (upTo i).take i = upTo i := List.take_of_length_le (by rw [hul]; exact Nat.le_refl _)
    rw [h1] at hO
    simpa using hO

end Go.Proofs.YtaeledhbkdakcaaGreatDoor
end

section
/- Colours and marks of cycles: marks of both sides, the reference's colours, marks with wide gaps of both sides. -/
namespace Go.Proofs.YtaeledhbkdakcaaGreatDoor
open Go.GX Go.RowKit
set_option maxRecDepth 100000

theorem getD_bool {m : List Bool} {i : Nat} (h : i < m.length) : m.getD i false = m[i] := by rw [List.getD_eq_getElem?_getD, List.getElem?_eq_getElem h]; rfl
theorem cycleMarks_ok {w : World} {s : Sl} {l : List Int} (h : R w s l) (hl : l.length ≤ 1000) :
    Calls Tryz.prog F.i_cycleMarks #[s.v] w (Ret [.at .sl] fun (r : Sl) w' => Ext w w' ∧ OwnL w' w.heap.size T.t_int r (markL l)) := by
  refine C_i_cycleMarks ?_
  unfold V_i_cycleMarks
  rw [h.len]
  refine RUN_make (α := Bool) slt_bool (d := false) rfl (by omega) (by unfold maxLen; omega) fun r w1 hE1 hO1 => ?_
  refine ⟨IN 3 fun c w' => Ext w w' ∧ OwnL w' w.heap.size T.t_bool r (mkAll l c), MN 3, IN_zero ⟨hE1, hO1⟩, ?_⟩
  rintro _ w2 ⟨c, rfl, hc, hE2, hO2⟩
  intros
  have hMl := mkAll_len l c
  refine cond_dec (fun hlt => ?_) (fun hge => ?_)
  · refine ⟨IN l.length fun i w' => Ext w w' ∧ OwnL w' w.heap.size T.t_bool r (mkRow l (c : Int) i (mkAll l c)), MN l.length, IN_zero ⟨hE2, hO2⟩, ?_⟩
    rintro _ w3 ⟨i, rfl, hi, hE3, hO3⟩
    intros
    refine cond_dec (fun hlt2 => ?_) (fun hge2 => ?_)
    rotate_left
    · have : i = l.length := by omega
      subst this
      exact IN_next (by omega) (show c < 3 by omega) ⟨hE3, hO3⟩
    have hi' : i < l.length := by omega
    have hnx : mkRow l (c : Int) (i + 1) (mkAll l c) = mk1 l (c : Int) i (mkRow l (c : Int) i (mkAll l c)) := rfl
    have hml : (mkRow l (c : Int) i (mkAll l c)).length = l.length := by rw [mkRow_len, hMl]
    generalize mkRow l (c : Int) i (mkAll l c) = M at hO3 hnx hml
    have stay : ¬ (at0 l i = c ∧ M.getD (prv l.length i) false = false ∧ M.getD (nxt l.length i) false = false) → mkRow l (c : Int) (i + 1) (mkAll l c) = M := fun hn => by rw [hnx]; unfold mk1; rw [if_neg hn]
    refine (h.ext hE3).ixI hi' fun q _ hcq => LD_int hcq ?_
    rw [← at0_get hi']
    refine cond_eq (fun heq => ⟨by omega, ?_⟩) (fun hne => IN_next (by omega) hi' ⟨hE3, by rw [stay fun hh => hne hh.1]; exact hO3⟩)
    rw [tmod_prv hi' (by omega)]
    have hpl : prv l.length i < M.length := by rw [hml]; exact prv_lt hi'
    have hnl : nxt l.length i < M.length := by rw [hml]; exact nxt_lt hi'
    have hRB := (hO3.rep fun _ _ => trivial).any
    refine hRB.ixB hpl fun q2 hc2 => LD_bool hc2 ?_
    rw [← getD_bool hpl]
    refine cond_not (fun hf => ⟨by omega, ?_⟩) (fun ht => IN_next (by omega) hi' ⟨hE3, by rw [stay fun hh => by rw [hh.2.1] at ht; cases ht]; exact hO3⟩)
    rw [tmod_nxt hi' (by omega)]
    refine hRB.ixB hnl fun q3 hc3 => LD_bool hc3 ?_
    rw [← getD_bool hnl]
    refine cond_not (fun hf2 => ?_) (fun ht => IN_next (by omega) hi' ⟨hE3, by rw [stay fun hh => by rw [hh.2.2] at ht; cases ht]; exact hO3⟩)
    have him : i < M.length := by omega
    refine IX_own hO3 him rfl fun q4 hq4 => ?_
    refine ST_own hO3 him hq4 true rfl fun w4 hO4 hs4 => ?_
    refine IN_next (by omega) hi' ⟨hs4.ext0 hE3 fun k hk => (hO3.blk k hk).1, ?_⟩
    rw [hnx]
    unfold mk1
    rw [if_pos ⟨heq, hf, hf2⟩]
    exact hO4
  · have : c = 3 := by omega
    subst this
    have hlenr : r.len = (mkAll l 3).length := hO2.1
    have hmk : markL l = idxN (mkAll l 3) (mkAll l 3).length := rfl
    rw [hlenr, hmk]
    generalize mkAll l 3 = M at hO2 hMl
    have hRB := (hO2.rep fun _ _ => trivial).any
    have hz2 := hE2.size_le
    refine ⟨IN2 M.length fun i (out : Sl) w' => Ext w2 w' ∧ OwnL w' w2.heap.size T.t_int out (idxN M i), MN2 M.length, IN2_zero ⟨Ext.refl _, OwnL.nil _ _ _⟩, ?_⟩
    rintro out _ w3 ⟨i, rfl, hi, hE3, hO3⟩
    intros
    refine cond_dec (fun hlt2 => ?_) (fun hge2 => ?_)
    rotate_left
    · have : i = M.length := by omega
      subst this
      exact ⟨hE2.trans hE3, hO3.low hz2⟩
    have hi' : i < M.length := by omega
    refine (hRB.ext hE3).ixB hi' fun q hcq => LD_bool hcq ?_
    rw [← getD_bool hi']
    refine cond_b (fun ht => ?_) (fun hf => ?_)
    · refine pushI hO3 hE3 (by unfold I64; omega) (by have := idxN_len M i; omega) fun r4 w4 hE4 hO4 => ?_
      refine IN2_next (by omega) hi' ⟨hE4, ?_⟩
      rw [idxN_succ, if_pos ht]; exact hO4
    · refine IN2_next (by omega) hi' ⟨hE3, ?_⟩
      rw [idxN_succ, if_neg (by rw [hf]; simp), List.append_nil]; exact hO3


theorem cyMark_ok {w : World} {s : Sl} {l : List Int} (h : R w s l) (hl : l.length ≤ 1000) :
    Calls Tryz.prog F.s_cyMark #[s.v] w (Ret [.at .sl] fun (r : Sl) w' => Ext w w' ∧ OwnL w' w.heap.size T.t_int r (markL l)) := by
  refine C_s_cyMark ?_
  unfold V_s_cyMark
  rw [h.len]
  refine RUN_make (α := Bool) slt_bool (d := false) rfl (by omega) (by unfold maxLen; omega) fun r w1 hE1 hO1 => ?_
  refine ⟨IN 3 fun c w' => Ext w w' ∧ OwnL w' w.heap.size T.t_bool r (mkAll l c), MN 3, IN_zero ⟨hE1, hO1⟩, ?_⟩
  rintro _ w2 ⟨c, rfl, hc, hE2, hO2⟩
  intros
  have hMl := mkAll_len l c
  refine cond_dec (fun hlt => ?_) (fun hge => ?_)
  · refine ⟨IN l.length fun i w' => Ext w w' ∧ OwnL w' w.heap.size T.t_bool r (mkRow l (c : Int) i (mkAll l c)), MN l.length, IN_zero ⟨hE2, hO2⟩, ?_⟩
    rintro _ w3 ⟨i, rfl, hi, hE3, hO3⟩
    intros
    refine cond_dec (fun hlt2 => ?_) (fun hge2 => ?_)
    rotate_left
    · have : i = l.length := by omega
      subst this
      exact IN_next (by omega) (show c < 3 by omega) ⟨hE3, hO3⟩
    have hi' : i < l.length := by omega
    have hnx : mkRow l (c : Int) (i + 1) (mkAll l c) = mk1 l (c : Int) i (mkRow l (c : Int) i (mkAll l c)) := rfl
    have hml : (mkRow l (c : Int) i (mkAll l c)).length = l.length := by rw [mkRow_len, hMl]
    generalize mkRow l (c : Int) i (mkAll l c) = M at hO3 hnx hml
    have stay : ¬ (at0 l i = c ∧ M.getD (prv l.length i) false = false ∧ M.getD (nxt l.length i) false = false) → mkRow l (c : Int) (i + 1) (mkAll l c) = M := fun hn => by rw [hnx]; unfold mk1; rw [if_neg hn]
    refine (h.ext hE3).ixI hi' fun q _ hcq => LD_int hcq ?_
    rw [← at0_get hi']
    refine cond_eq (fun heq => ⟨by omega, ?_⟩) (fun hne => IN_next (by omega) hi' ⟨hE3, by rw [stay fun hh => hne hh.1]; exact hO3⟩)
    rw [tmod_prv hi' (by omega)]
    have hpl : prv l.length i < M.length := by rw [hml]; exact prv_lt hi'
    have hnl : nxt l.length i < M.length := by rw [hml]; exact nxt_lt hi'
    have hRB := (hO3.rep fun _ _ => trivial).any
    refine hRB.ixB hpl fun q2 hc2 => LD_bool hc2 ?_
    rw [← getD_bool hpl]
    refine cond_not (fun hf => ⟨by omega, ?_⟩) (fun ht => IN_next (by omega) hi' ⟨hE3, by rw [stay fun hh => by rw [hh.2.1] at ht; cases ht]; exact hO3⟩)
    rw [tmod_nxt hi' (by omega)]
    refine hRB.ixB hnl fun q3 hc3 => LD_bool hc3 ?_
    rw [← getD_bool hnl]
    refine cond_not (fun hf2 => ?_) (fun ht => IN_next (by omega) hi' ⟨hE3, by rw [stay fun hh => by rw [hh.2.2] at ht; cases ht]; exact hO3⟩)
    have him : i < M.length := by omega
    refine IX_own hO3 him rfl fun q4 hq4 => ?_
    refine ST_own hO3 him hq4 true rfl fun w4 hO4 hs4 => ?_
    refine IN_next (by omega) hi' ⟨hs4.ext0 hE3 fun k hk => (hO3.blk k hk).1, ?_⟩
    rw [hnx]
    unfold mk1
    rw [if_pos ⟨heq, hf, hf2⟩]
    exact hO4
  · have : c = 3 := by omega
    subst this
    have hlenr : r.len = (mkAll l 3).length := hO2.1
    have hmk : markL l = idxN (mkAll l 3) (mkAll l 3).length := rfl
    rw [hlenr, hmk]
    generalize mkAll l 3 = M at hO2 hMl
    have hRB := (hO2.rep fun _ _ => trivial).any
    have hz2 := hE2.size_le
    refine ⟨IN2 M.length fun i (out : Sl) w' => Ext w2 w' ∧ OwnL w' w2.heap.size T.t_int out (idxN M i), MN2 M.length, IN2_zero ⟨Ext.refl _, OwnL.nil _ _ _⟩, ?_⟩
    rintro out _ w3 ⟨i, rfl, hi, hE3, hO3⟩
    intros
    refine cond_dec (fun hlt2 => ?_) (fun hge2 => ?_)
    rotate_left
    · have : i = M.length := by omega
      subst this
      exact ⟨hE2.trans hE3, hO3.low hz2⟩
    have hi' : i < M.length := by omega
    refine (hRB.ext hE3).ixB hi' fun q hcq => LD_bool hcq ?_
    rw [← getD_bool hi']
    refine cond_b (fun ht => ?_) (fun hf => ?_)
    · refine pushI hO3 hE3 (by unfold I64; omega) (by have := idxN_len M i; omega) fun r4 w4 hE4 hO4 => ?_
      refine IN2_next (by omega) hi' ⟨hE4, ?_⟩
      rw [idxN_succ, if_pos ht]; exact hO4
    · refine IN2_next (by omega) hi' ⟨hE3, ?_⟩
      rw [idxN_succ, if_neg (by rw [hf]; simp), List.append_nil]; exact hO3


/-! ### The reference's colours -/

theorem nuBitC_ok {n i : Nat} (hn : n < 4611686018427387904) (hi : i ≤ 64) (w : World) :
    Calls Tryz.prog F.s_nuBit #[.int .i64 (n : Int), .int .i64 (i : Int)] w (Ret [.at (.int .i64)] fun (x : Int) w' => x = ((bit0 n i : Nat) : Int) ∧ w = w') := by
  refine C_s_nuBit ?_
  unfold V_s_nuBit
  refine ⟨fun (x y : Int) w' => w = w' ∧ ∃ k : Nat, y = k ∧ k ≤ i ∧ x = ((n / 2 ^ (i - k) : Nat) : Int), fun _ y _ => y.toNat, ⟨rfl, i, rfl, Nat.le_refl _, by rw [Nat.sub_self, Nat.pow_zero, Nat.div_one]⟩, ?_⟩
  rintro _ _ _ ⟨rfl, k, rfl, hk, rfl⟩
  intros
  have hle : n / 2 ^ (i - k) ≤ n := Nat.div_le_self _ _
  refine cond_dec (fun hlt => ⟨by omega, ?_⟩) (fun hge => ⟨by omega, ?_⟩)
  · have e1 : Int.tdiv ((n / 2 ^ (i - k) : Nat) : Int) 2 = ((n / 2 ^ (i - (k - 1)) : Nat) : Int) := by
      rw [show (2 : Int) = ((2 : Nat) : Int) from rfl, ← Int.ofNat_tdiv, Nat.div_div_eq_div_mul, show i - (k - 1) = i - k + 1 by omega, Nat.pow_succ]
    have hle2 : n / 2 ^ (i - (k - 1)) ≤ n := Nat.div_le_self _ _
    have e2 : IntKind.i64.wrap ((n / 2 ^ (i - (k - 1)) : Nat) : Int) = ((n / 2 ^ (i - (k - 1)) : Nat) : Int) := by
      generalize n / 2 ^ (i - (k - 1)) = d at hle2
      exact wrap_of (by omega) (by omega)
    rw [e1, e2, wrap_of (n := (k : Int) - 1) (by omega) (by omega)]
    exact ⟨⟨rfl, k - 1, by omega, by omega, rfl⟩, by simp only []; omega⟩
  · have : k = 0 := by omega
    subst this
    refine ⟨?_, rfl⟩
    rw [show (2 : Int) = ((2 : Nat) : Int) from rfl, ← Int.ofNat_tmod]
    rfl

theorem nuDiffer_ok {x y : Nat} (hx : x < 1048576) (hy : y < 1048576) (hne : x ≠ y) (w : World) :
    Calls Tryz.prog F.s_nuDiffer #[.int .i64 (x : Int), .int .i64 (y : Int)] w (Ret [.at (.int .i64)] fun (r : Int) w' => r = ((ctzx x y : Nat) : Int) ∧ w = w') := by
  have h20 : (2 : Nat) ^ 20 = 1048576 := by decide
  obtain ⟨h1, h2, h3⟩ := ctzx_spec (m := 20) (by omega) hne (by omega) (by omega)
  refine C_s_nuDiffer ?_
  unfold V_s_nuDiffer
  refine ⟨fun (i : Int) w' => w = w' ∧ ∃ k : Nat, i = k ∧ k ≤ ctzx x y, fun i _ => (20 - i).toNat, ⟨rfl, 0, rfl, Nat.zero_le _⟩, ?_⟩
  rintro _ _ ⟨rfl, k, rfl, hk⟩
  intros
  refine call (nuBitC_ok (by omega) (by omega) w) ?_
  rintro _ _ ⟨rfl, rfl⟩
  refine call (nuBitC_ok (by omega) (by omega) w) ?_
  rintro _ _ ⟨rfl, rfl⟩
  refine cond_eq (fun heq => ?_) (fun hneb => ?_)
  · have hb : x.testBit k = y.testBit k := bit0_eq.1 (by omega)
    have : k ≠ ctzx x y := fun e => by rw [e] at hb; exact h2 hb
    rw [wrap_of (by omega) (by omega)]
    exact ⟨⟨rfl, k + 1, by omega, by omega⟩, by simp only []; omega⟩
  · have : k = ctzx x y := by
      rcases Nat.lt_or_ge k (ctzx x y) with h4 | h4
      · exact absurd (by rw [bit0_eq.2 (h3 k h4)]) hneb
      · omega
    exact ⟨by rw [this], rfl⟩

theorem cyBit_ok {w : World} {s : Sl} {l : List Int} (h : R w s l) (hp : ProperC l) (hs : Small0 l 1048576) (hl : l.length ≤ 1000) :
    Calls Tryz.prog F.s_cyBit #[s.v] w (Ret [.at .sl] fun (r : Sl) w' => Ext w w' ∧ OwnL w' w.heap.size T.t_int r (stepL l)) := by
  refine C_s_cyBit ?_
  unfold V_s_cyBit
  rw [h.len]
  generalize hf : (fun i => ((stepV (at0 l i).toNat (at0 l (nxt l.length i)).toNat : Nat) : Int)) = f
  have hst : stepL l = mk0 l.length f := by rw [← hf]; rfl
  rw [hst]
  refine ⟨IN2 l.length fun i (out : Sl) w' => Ext w w' ∧ OwnL w' w.heap.size T.t_int out (mk0 i f), MN2 l.length, IN2_zero ⟨Ext.refl _, OwnL.nil _ _ _⟩, ?_⟩
  rintro out _ w1 ⟨i, rfl, hi, hE1, hO1⟩
  intros
  refine cond_dec (fun hlt => ?_) (fun hge => ?_)
  rotate_left
  · have : i = l.length := by omega
    subst this
    exact ⟨hE1, hO1⟩
  have hi' : i < l.length := by omega
  refine (h.ext hE1).ixI hi' fun q _ hc => LD_int hc ⟨by omega, ?_⟩
  rw [tmod_nxt hi' (by omega)]
  have hn := nxt_lt hi'
  refine (h.ext hE1).ixI hn fun q2 _ hc2 => LD_int hc2 ?_
  have a1 := hs _ (at0_mem hi')
  have a2 := hs _ (at0_mem hn)
  have hne := hp i hi'
  rw [← at0_get hi', ← at0_get hn]
  have hfi : f i = ((stepV (at0 l i).toNat (at0 l (nxt l.length i)).toNat : Nat) : Int) := by rw [← hf]
  obtain ⟨x, hx⟩ : ∃ x : Nat, at0 l i = x := ⟨(at0 l i).toNat, by omega⟩
  obtain ⟨y, hy⟩ : ∃ y : Nat, at0 l (nxt l.length i) = y := ⟨(at0 l (nxt l.length i)).toNat, by omega⟩
  simp only [hx, hy] at hfi hne a1 a2 ⊢
  simp only [Int.toNat_natCast] at hfi
  have hxy : x ≠ y := fun e => hne (by rw [e])
  have h20 : (2 : Nat) ^ 20 = 1048576 := by decide
  have hc20 := (ctzx_spec (m := 20) (by omega) hxy (by omega) (by omega)).1
  refine call (nuDiffer_ok (by omega) (by omega) hxy w1) ?_
  rintro _ _ ⟨rfl, rfl⟩
  refine call (nuBitC_ok (by omega) (by omega) w1) ?_
  rintro _ _ ⟨rfl, rfl⟩
  have hb := bit0_lt x (ctzx x y)
  have hv : stepV x y = 2 * ctzx x y + bit0 x (ctzx x y) := rfl
  rw [wrap_of (n := 2 * ((ctzx x y : Nat) : Int)) (by omega) (by omega), wrap_of (by omega) (by omega)]
  have e1 : 2 * ((ctzx x y : Nat) : Int) + ((bit0 x (ctzx x y) : Nat) : Int) = f i := by rw [hfi, hv]; push_cast; rfl
  rw [e1]
  refine pushI hO1 hE1 (by rw [← e1]; unfold I64; omega) (by rw [mk0_len]; omega) fun r2 w3 hE3 hO3 => ?_
  rw [← mk0_snoc] at hO3
  exact IN2_next (by omega) hi' ⟨hE3, hO3⟩

theorem cyFree_ok (a b : Int) (w : World) :
    Calls Tryz.prog F.s_cyFree #[.int .i64 a, .int .i64 b] w (Ret [.at (.int .i64)] fun (r : Int) w' => r = freeC a b ∧ w = w') := by
  refine C_s_cyFree ?_
  unfold V_s_cyFree
  refine ⟨fun (x : Int) w' => w = w' ∧ ∃ u : Nat, x = u ∧ u ≤ 2 ∧ ∀ v : Nat, v < u → (v : Int) = a ∨ (v : Int) = b, fun x _ => (3 - x).toNat, ⟨rfl, 0, rfl, by omega, fun v hv => by omega⟩, ?_⟩
  rintro _ _ ⟨rfl, u, rfl, hu, hall⟩
  intros
  have more : u < 2 → ((u : Int) = a ∨ (u : Int) = b) → (w = w ∧ ∃ u' : Nat, IntKind.i64.wrap ((u : Int) + 1) = u' ∧ u' ≤ 2 ∧ ∀ v : Nat, v < u' → (v : Int) = a ∨ (v : Int) = b) ∧ (3 - IntKind.i64.wrap ((u : Int) + 1)).toNat < (3 - (u : Int)).toNat := fun h2 hh => by
    rw [wrap_of (by omega) (by omega)]
    refine ⟨⟨rfl, u + 1, by omega, by omega, fun v hv => ?_⟩, by omega⟩
    by_cases e : v = u
    · subst e; exact hh
    · exact hall v (by omega)
  refine cond_dec (fun hlt => ?_) (fun hge => ?_)
  · refine cond_ne (fun h1 => cond_ne (fun h2 => ⟨freeC_of hu hall h1 h2, rfl⟩) (fun h2 => more (by omega) (.inr h2))) (fun h1 => more (by omega) (.inl h1))
  · have : u = 2 := by omega
    subst this
    have b0 := hall 0 (by omega)
    have b1 := hall 1 (by omega)
    refine ⟨?_, rfl⟩
    unfold freeC
    rw [if_pos (by omega), if_pos (by omega)]

theorem five_all {l : List Int} (h : ∀ x ∈ l, 0 ≤ x) : AllIn l 0 5 ↔ five l = true := by
  rw [five_iff]
  exact ⟨fun hh x hx => (hh x hx).2, fun hh x hx => ⟨h x hx, hh x hx⟩⟩

theorem cyThree_ok {w : World} {s : Sl} {l : List Int} (h : R w s l) (hp : ProperC l) (hs : Small0 l 1048576) (hl : l.length ≤ 1000) :
    Calls Tryz.prog F.s_cyThree #[s.v] w (Ret [.at .sl, .at (.int .i64)] fun (r : Sl) (_ : Int) w' => Ext w w' ∧ OwnL w' w.heap.size T.t_int r (threeL l)) := by
  refine C_s_cyThree ?_
  unfold V_s_cyThree
  refine call (l1Own_ok h (by omega)) ?_
  rintro r1 w1 ⟨hE1, hO1⟩
  refine ⟨fun (x : Sl) (rd : Int) w' => ∃ (n : Nat) (L : List Int), rd = 4 - (n : Int) ∧ SixSt l n L ∧ Ext w w' ∧ OwnL w' w.heap.size T.t_int x L, fun _ rd _ => (4 - rd).toNat, ⟨4, l, rfl, .start hp hs, hE1, hO1⟩, ?_⟩
  rintro x _ w2 ⟨n, L, rfl, hst, hE2, hO2⟩
  intros
  have hLl : L.length = l.length := hst.len
  have hnn : ∀ y ∈ L, 0 ≤ y := fun y hy => (hst.nn y hy).1
  have hR2 : R w2 x L := (hO2.rep (small_I64 (B := 1048576) hst.nn (by omega))).any
  refine call (l1All_ok hR2 0 5) ?_
  rintro b _ ⟨hb, rfl⟩
  rw [five_all hnn] at hb
  refine cond_not (fun hbf => ?_) (fun hbt => ?_)
  · have hf : five L = false := by
      cases hf : five L with
      | false => rfl
      | true => rw [hb.2 hf] at hbf; cases hbf
    have hn0 := hst.pos hf
    obtain ⟨n, rfl⟩ : ∃ m, n = m + 1 := ⟨n - 1, by omega⟩
    refine call (cyBit_ok hR2 hst.proper hst.nn (by omega)) ?_
    rintro r3 w3 ⟨hE3, hO3⟩
    have hle4 := hst.le
    rw [wrap_of (by omega) (by omega)]
    exact ⟨⟨n, stepL L, by omega, hst.next hf, hE2.trans hE3, hO3.low hE2.size_le⟩, by simp only []; omega⟩
  · have hf : five L = true := hb.1 hbt
    obtain ⟨eL, hsix⟩ := hst.six_end hf
    have hle4 := hst.le
    refine ⟨fun (x : Sl) (rd c : Int) w' => ∃ j : Nat, j ≤ 3 ∧ 0 ≤ rd ∧ rd ≤ 4 + j ∧ c = 5 - (j : Int) ∧ Ext w w' ∧ OwnL w' w.heap.size T.t_int x (redJ L j), fun _ _ c _ => c.toNat, ⟨0, by omega, by omega, by omega, by omega, hE2, hO2⟩, ?_⟩
    rintro x3 rd _ w3 ⟨j, hj, hrd0, hrd, rfl, hE3, hO3⟩
    intros
    have hM := redJ_six hsix j hj
    have hMl : (redJ L j).length = l.length := by rw [redJ_len, hLl]
    have hlast : j = 3 → redJ L j = threeL l := fun e => by rw [e, eL]; exact redJ_three l
    have hnext : redC (5 - (j : Int)) (redJ L j) = redJ L (j + 1) := rfl
    generalize redJ L j = M at hM hMl hlast hnext hO3
    have hsm : Small0 M 100 := fun y hy => by have := hM.small y hy; omega
    refine cond_dec (fun hgt => ?_) (fun hle2 => ?_)
    rotate_left
    · have : j = 3 := by omega
      rw [hlast this] at hO3
      exact ⟨hE3, hO3⟩
    have hR3 : R w3 x3 M := (hO3.rep (small_I64 hsm (by omega))).any
    refine call (l1Own_ok hR3 (by omega)) ?_
    rintro r4 w4 ⟨hE4, hO4⟩
    have hz3 := hE3.size_le
    rw [hR3.len]
    refine ⟨IN M.length fun i w' => Ext w3 w' ∧ OwnL w' w3.heap.size T.t_int r4 (redS (5 - (j : Int)) M i), MN M.length, IN_zero ⟨hE4, by rw [redS_zero]; exact hO4⟩, ?_⟩
    rintro _ w5 ⟨i, rfl, hi, hE5, hO5⟩
    intros
    refine cond_dec (fun hlt => ?_) (fun hge => ?_)
    rotate_left
    · have : i = M.length := by omega
      subst this
      rw [redS_end, hnext] at hO5
      rw [wrap_of (n := rd + 1) (by omega) (by omega), wrap_of (by omega) (by omega)]
      exact ⟨⟨j + 1, by omega, by omega, by omega, by omega, hE3.trans hE5, hO5.low hz3⟩, by simp only []; omega⟩
    have hi' : i < M.length := by omega
    refine (hR3.ext hE5).ixI hi' fun q _ hc => LD_int hc ?_
    rw [← at0_get hi']
    refine cond_eq (fun heq => ?_) (fun hne => IN_next (by omega) hi' ⟨hE5, by rw [redS_skip hne]; exact hO5⟩)
    intro w6 hE6 _
    have hE36 := hE5.trans hE6
    have hR6 := hR3.ext hE36
    have hO6 := hO5.ext hE6
    refine ⟨fun _ => False, by omega, ?_⟩
    rw [tmod_prv hi' (by omega), tmod_nxt hi' (by omega)]
    have hpl := prv_lt hi'
    have hnl := nxt_lt hi'
    have cr := Chg.refl w6 fun _ => False
    refine hR6.ixI hpl fun q2 _ hc2 => ⟨not_false, LD_int hc2 ⟨cr, cr, by omega, cr, hR6.ixI hnl fun q3 _ hc3 => ⟨cr, LD_int hc3 ⟨cr, ?_⟩⟩⟩⟩
    rw [← at0_get hpl, ← at0_get hnl]
    refine call (cyFree_ok _ _ w6) ?_
    rintro _ _ ⟨rfl, rfl⟩
    refine ⟨cr, ?_⟩
    have hil : i < (redS (5 - (j : Int)) M i).length := by rw [redS_len]; exact hi'
    refine IX_own hO6 hil rfl fun q4 hq4 => ?_
    refine ST_own hO6 hil hq4 (freeC (at0 M (prv M.length i)) (at0 M (nxt M.length i))) rfl fun w7 hO7 hs7 => ?_
    have hval : freeC (at0 M (prv M.length i)) (at0 M (nxt M.length i)) = redV (5 - (j : Int)) M i := by unfold redV; rw [if_pos heq]
    rw [hval, redS_set] at hO7
    exact IN_next (by omega) hi' ⟨hs7.ext0 hE36 fun k hk => (hO6.blk k hk).1, hO7⟩

theorem coThroughC_ok {w : World} {s t : Sl} {f m : List Int} (hm : R w s m) (hf : R w t f) (hin : ∀ x ∈ m, ∃ u : Nat, x = u ∧ u < f.length) (hml : m.length ≤ 1048576) :
    Calls Tryz.prog F.s_coThrough #[t.v, s.v] w (Ret [.at .sl] fun (r : Sl) w' => Ext w w' ∧ OwnL w' w.heap.size T.t_int r (imgL m f)) := by
  refine C_s_coThrough ?_
  unfold V_s_coThrough
  rw [hm.len]
  have him : imgL m f = mk0 m.length fun i => at0 f (at0 m i).toNat := mk0_ext (imgL_len m f) fun i hi => imgL_at hi
  rw [him]
  refine ⟨IN2 m.length fun i (out : Sl) w' => Ext w w' ∧ OwnL w' w.heap.size T.t_int out (mk0 i fun i => at0 f (at0 m i).toNat), MN2 m.length, IN2_zero ⟨Ext.refl _, OwnL.nil _ _ _⟩, ?_⟩
  rintro out _ w1 ⟨i, rfl, hi, hE1, hO1⟩
  intros
  refine cond_dec (fun hlt => ?_) (fun hge => ?_)
  rotate_left
  · have : i = m.length := by omega
    subst this
    exact ⟨hE1, hO1⟩
  have hi' : i < m.length := by omega
  refine (hm.ext hE1).ixI hi' fun q _ hc => LD_int hc ?_
  obtain ⟨u, hu, hul⟩ := hin _ (List.getElem_mem hi')
  rw [hu]
  refine (hf.ext hE1).ixI hul fun q2 hx hc2 => LD_int hc2 ?_
  refine pushI hO1 hE1 hx (by rw [mk0_len]; omega) fun r2 w3 hE3 hO3 => ?_
  refine IN2_next (by omega) hi' ⟨hE3, ?_⟩
  rw [mk0_snoc, at0_get hi', hu, Int.toNat_natCast, at0_get hul]
  exact hO3

/-! ### Marks with wide gaps -/

theorem MarksOk.nat {k : Nat} {m : List Int} (h : MarksOk k m) : ∀ x ∈ m, ∃ u : Nat, x = u ∧ u < k := fun x hx => ⟨x.toNat, by have := h.lab x hx; omega, by have := h.lab x hx; omega⟩
theorem MarksOk.i64 {k : Nat} {m : List Int} (h : MarksOk k m) (hk : k ≤ 1000) : ∀ x ∈ m, I64 x := fun x hx => by
  have := h.lab x hx
  unfold I64; omega
theorem RingIds.three_marks {ids m : List Int} (h : RingIds ids) (hm : MarksOk ids.length m) (h2 : 2 ≤ m.length) : MarksOk m.length (markL (threeL (imgL m ids))) := by
  obtain ⟨h3, h4⟩ := h.three hm h2
  have h5 := markL_ok (by rw [h4]; exact hm.ne) h3
  rw [h4] at h5; exact h5
theorem spacedL_next {ids : List Int} {i : Nat} (h : ¬ (spacedL ids i).length < 2) : spacedL ids (i + 1) = imgL (markL (threeL (imgL (spacedL ids i) ids))) (spacedL ids i) := by
  show (if (spacedL ids i).length < 2 then _ else _) = _
  rw [if_neg h]

theorem spacedMarks_ok {w : World} (g : GT w) {s : Sl} {ids : List Int} (h : R w s ids) (hr : RingIds ids) {n : Nat} (hn : n ≤ 1000) :
    Calls Tryz.prog F.i_spacedMarks #[s.v, .int .i64 (n : Int)] w (Ret [.at .sl] fun (r : Sl) w' => Ext w w' ∧ OwnL w' w.heap.size T.t_int r (spacedL ids n)) := by
  refine C_i_spacedMarks ?_
  unfold V_i_spacedMarks
  have hlen := hr.len
  rw [h.len]
  refine call (numbersTo_ok ids.length (by omega) w) ?_
  rintro r1 w1 ⟨hE1, hO1⟩
  refine ⟨IN2 n fun i (out : Sl) w' => Ext w w' ∧ OwnL w' w.heap.size T.t_int out (spacedL ids i), MN2 n, IN2_zero ⟨hE1, hO1⟩, ?_⟩
  rintro out _ w2 ⟨i, rfl, hi, hE2, hO2⟩
  intros
  have hm := hr.spaced i
  have hml := hm.len
  have hst := fun hh => spacedL_stay (ids := ids) (i := i) hh (n - i)
  have hnx := spacedL_next (ids := ids) (i := i)
  refine cond_dec (fun hlt => ?_) (fun hge => ?_)
  rotate_left
  · have : i = n := by omega
    subst this
    exact ⟨hE2, hO2⟩
  generalize spacedL ids i = m at hO2 hm hml hst hnx
  have hlo : out.len = m.length := hO2.1
  rw [hlo]
  refine cond_dec (fun hlt2 => ?_) (fun hge2 => ?_)
  · have e := hst (by omega)
    rw [show i + (n - i) = n by omega] at e
    rw [e]
    exact ⟨hE2, hO2⟩
  have hRm : R w2 out m := (hO2.rep (hm.i64 (by omega))).any
  have hp := hr.proper hm (by omega)
  have h3 := hr.three hm (by omega)
  have hmk := hr.three_marks hm (by omega)
  refine call (images_ok hRm (h.ext hE2) hm.nat (by omega)) ?_
  rintro r3 w3 ⟨hE3, hO3⟩
  have hO3' : OwnL w3 w2.heap.size T.t_int r3 (imgL m ids) := hO3
  have hE03 := hE2.trans hE3
  refine call (threeColours_ok (g.ext hE03) (hO3'.rep (small_I64 hp.2 (by omega))).any hp.1 hp.2 (by rw [imgL_len]; omega) (by rw [imgL_len]; omega)) ?_
  rintro r4 _ w4 ⟨hE4, hO4⟩
  have hE04 := hE03.trans hE4
  refine call (cycleMarks_ok (hO4.rep (small_I64 h3.1 (by omega))).any (by rw [h3.2]; omega)) ?_
  rintro r5 w5 ⟨hE5, hO5⟩
  have hE25 := (hE3.trans hE4).trans hE5
  have hE05 := hE04.trans hE5
  refine call (images_ok (hO5.rep (hmk.i64 (by omega))).any (hRm.ext hE25) hmk.nat (by have := hmk.len; omega)) ?_
  rintro r6 w6 ⟨hE6, hO6⟩
  refine IN2_next (by omega) (show i < n by omega) ⟨hE05.trans hE6, ?_⟩
  rw [hnx (by omega)]
  exact hO6.low hE05.size_le

theorem cySpaced_ok {w : World} {s : Sl} {ids : List Int} (h : R w s ids) (hr : RingIds ids) {n : Nat} (hn : n ≤ 1000) :
    Calls Tryz.prog F.s_cySpaced #[s.v, .int .i64 (n : Int)] w (Ret [.at .sl] fun (r : Sl) w' => Ext w w' ∧ OwnL w' w.heap.size T.t_int r (spacedL ids n)) := by
  refine C_s_cySpaced ?_
  unfold V_s_cySpaced
  have hlen := hr.len
  rw [h.len]
  refine ⟨IN2 ids.length fun i (out : Sl) w' => Ext w w' ∧ OwnL w' w.heap.size T.t_int out (mk0 i fun i => (i : Int)), MN2 ids.length, IN2_zero ⟨Ext.refl _, OwnL.nil _ _ _⟩, ?_⟩
  rintro out _ w1 ⟨i, rfl, hi, hE1, hO1⟩
  intros
  refine cond_dec (fun hlt => ?_) (fun hge => ?_)
  · refine pushI hO1 hE1 (by unfold I64; omega) (by rw [mk0_len]; omega) fun r2 w3 hE3 hO3 => ?_
    refine IN2_next (by omega) (show i < ids.length by omega) ⟨hE3, ?_⟩
    rw [mk0_snoc]; exact hO3
  have hie : i = ids.length := by omega
  subst hie
  have hO1' : OwnL w1 w.heap.size T.t_int out (spacedL ids 0) := hO1
  refine ⟨fun (lv : Int) (x : Sl) w' => ∃ i : Nat, i ≤ n ∧ lv = (n : Int) - i ∧ Ext w w' ∧ OwnL w' w.heap.size T.t_int x (spacedL ids i), fun lv _ _ => lv.toNat, ⟨0, Nat.zero_le _, by omega, hE1, hO1'⟩, ?_⟩
  rintro _ x2 w2 ⟨i, hi2, rfl, hE2, hO2⟩
  intros
  have hm := hr.spaced i
  have hml := hm.len
  have hst := fun hh => spacedL_stay (ids := ids) (i := i) hh (n - i)
  have hnx := spacedL_next (ids := ids) (i := i)
  refine cond_dec (fun hlt => ?_) (fun hge => ?_)
  rotate_left
  · have : i = n := by omega
    subst this
    exact ⟨hE2, hO2⟩
  generalize spacedL ids i = m at hO2 hm hml hst hnx
  have hlo : x2.len = m.length := hO2.1
  rw [hlo]
  refine cond_dec (fun hgt2 => ?_) (fun hle2 => ?_)
  rotate_left
  · have e := hst (by omega)
    rw [show i + (n - i) = n by omega] at e
    rw [e]
    exact ⟨hE2, hO2⟩
  have hRm : R w2 x2 m := (hO2.rep (hm.i64 (by omega))).any
  have hp := hr.proper hm (by omega)
  have h3 := hr.three hm (by omega)
  have hmk := hr.three_marks hm (by omega)
  refine call (coThroughC_ok hRm (h.ext hE2) hm.nat (by omega)) ?_
  rintro r3 w3 ⟨hE3, hO3⟩
  have hE03 := hE2.trans hE3
  refine call (cyThree_ok (hO3.rep (small_I64 hp.2 (by omega))).any hp.1 hp.2 (by rw [imgL_len]; omega)) ?_
  rintro r4 _ w4 ⟨hE4, hO4⟩
  have hE04 := hE03.trans hE4
  refine call (cyMark_ok (hO4.rep (small_I64 h3.1 (by omega))).any (by rw [h3.2]; omega)) ?_
  rintro r5 w5 ⟨hE5, hO5⟩
  have hE25 := (hE3.trans hE4).trans hE5
  have hE05 := hE04.trans hE5
  refine call (coThroughC_ok (hO5.rep (hmk.i64 (by omega))).any (hRm.ext hE25) hmk.nat (by have := hmk.len; omega)) ?_
  rintro r6 w6 ⟨hE6, hO6⟩
  rw [wrap_of (by omega) (by omega)]
  refine ⟨⟨i + 1, by omega, by omega, hE05.trans hE6, ?_⟩, by simp only []; omega⟩
  rw [hnx (by omega)]
  exact hO6.low hE05.size_le

end Go.Proofs.YtaeledhbkdakcaaGreatDoor
end

section
/- Plain facts on walk problems and rooted problems: arcs, pruning, roots. No program in sight. -/
namespace Go.Proofs.YtaeledhbkdakcaaGreatDoor
open Go.GX
set_option maxRecDepth 100000

structure WPr where
  labels : Int
  arcs : List (List Int)
structure RPr where
  labels : Int
  children : Int
  lines : List (List Int)

def arcE (A : List (List Int)) (a b : Nat) : Prop := [(a : Int), (b : Int)] ∈ A
/-- Rows that rise and have labels. -/
structure RowsUp (L : List (List Int)) (size labels : Int) : Prop where
  len : ∀ x ∈ L, (x.length : Int) = size
  lab : ∀ x ∈ L, AllIn x 0 (labels - 1)
  up : ∀ i (h : i + 1 < L.length), cmpL L[i] L[i + 1] < 0
theorem RowsUp.lt {L : List (List Int)} {size labels : Int} (h : RowsUp L size labels) : ∀ j i (_ : i < j) (hj : j < L.length), cmpL (L[i]'(by omega)) L[j] < 0 := by
  intro j
  induction j with
  | zero => intro i hi; omega
  | succ j ih =>
    intro i hi hj
    have h2 := h.up j hj
    by_cases he : i = j
    · subst he; exact h2
    · exact cmpL_trans (ih i (by omega) (by omega)) h2

structure WGood (p : WPr) : Prop where
  lab : 1 ≤ p.labels ∧ p.labels ≤ 12
  up : RowsUp p.arcs 2 p.labels
structure RoGood (p : RPr) : Prop where
  lab : 1 ≤ p.labels ∧ p.labels ≤ 8
  chi : 1 ≤ p.children ∧ p.children ≤ 3
  up : RowsUp p.lines (p.children + 1) p.labels
  sort : ∀ x ∈ p.lines, x.tail.Pairwise (· ≤ ·)

/-- Two rising lists with the same members. -/
theorem up_unique : ∀ {L M : List (List Int)}, L.Pairwise (fun x y => cmpL x y < 0) → M.Pairwise (fun x y => cmpL x y < 0) → (∀ x, x ∈ L ↔ x ∈ M) → L = M
  | [], [], _, _, _ => rfl
  | [], m :: M, _, _, h => by have := (h m).2 (by simp); simp at this
  | l :: L, [], _, _, h => by have := (h l).1 (by simp); simp at this
  | l :: L, m :: M, h1, h2, h => by
    rw [List.pairwise_cons] at h1 h2
    have irr : ∀ x, ¬ cmpL x x < 0 := fun x => by rw [cmpL_zero.2 rfl]; omega
    have e : l = m := by
      rcases List.mem_cons.1 ((h l).1 (by simp)) with h3 | h3
      · exact h3
      · rcases List.mem_cons.1 ((h m).2 (by simp)) with h4 | h4
        · exact h4.symm
        · exact absurd (cmpL_trans (h1.1 m h4) (h2.1 l h3)) (irr l)
    subst e
    rw [up_unique h1.2 h2.2 fun x => ⟨fun hx => ?_, fun hx => ?_⟩]
    · rcases List.mem_cons.1 ((h x).1 (List.mem_cons_of_mem _ hx)) with h3 | h3
      · subst h3; exact absurd (h1.1 x hx) (irr x)
      · exact h3
    · rcases List.mem_cons.1 ((h x).2 (List.mem_cons_of_mem _ hx)) with h3 | h3
      · subst h3; exact absurd (h2.1 x hx) (irr x)
      · exact h3

/-! ### The path form -/

/-- Some line with labels of a set has a label above another. -/
def pathE (lines : List (List Int)) (S : List Int) (a b : Nat) : Prop := ∃ x ∈ lines, (∀ y ∈ x, y ∈ S) ∧ x.head? = some (a : Int) ∧ (b : Int) ∈ x.tail

/-- The arcs of a path form, in order: rising, and these alone. -/
structure PathArcs (lines : List (List Int)) (S : List Int) (A : List (List Int)) : Prop where
  up : A.Pairwise (fun x y => cmpL x y < 0)
  mem : ∀ y, y ∈ A ↔ ∃ x ∈ lines, (∀ z ∈ x, z ∈ S) ∧ ∃ a, x.head? = some a ∧ ∃ b ∈ x.tail, y = [a, b]

theorem PathArcs.unique {lines : List (List Int)} {S : List Int} {A B : List (List Int)} (h : PathArcs lines S A) (h' : PathArcs lines S B) : A = B :=
  up_unique h.up h'.up fun x => (h.mem x).trans (h'.mem x).symm

theorem PathArcs.rel {lines : List (List Int)} {S : List Int} {A : List (List Int)} (h : PathArcs lines S A) : arcE A = pathE lines S := by
  funext a b
  refine propext ((h.mem _).trans ⟨?_, ?_⟩)
  · rintro ⟨x, hx, hS, c, hc, d, hd, he⟩
    simp only [List.cons.injEq, and_true] at he
    obtain ⟨rfl, rfl⟩ := he
    exact ⟨x, hx, hS, hc, hd⟩
  · rintro ⟨x, hx, hS, hc, hd⟩
    exact ⟨x, hx, hS, _, hc, _, hd, rfl⟩

theorem PathArcs.good {R : RPr} (hR : RoGood R) {S : List Int} {A : List (List Int)} (h : PathArcs R.lines S A) : WGood ⟨R.labels, A⟩ := by
  have hm : ∀ y ∈ A, (y.length : Int) = 2 ∧ AllIn y 0 (R.labels - 1) := fun y hy => by
    obtain ⟨x, hx, _, a, ha, b, hb, rfl⟩ := (h.mem y).1 hy
    refine ⟨rfl, fun z hz => ?_⟩
    have hl := hR.up.lab x hx
    simp only [List.mem_cons, List.not_mem_nil, or_false] at hz
    rcases hz with rfl | rfl
    · exact hl _ (List.mem_of_head? ha)
    · exact hl _ (List.mem_of_mem_tail hb)
  have hl := hR.lab
  exact ⟨⟨hl.1, by show R.labels ≤ 12; omega⟩, ⟨fun y hy => (hm y hy).1, fun y hy => (hm y hy).2, fun i hi => (List.pairwise_iff_getElem.1 h.up) i (i + 1) (by have : i + 1 < A.length := hi; omega) hi (by omega)⟩⟩

/-! ### Pruning -/

def allL (n : Nat) : List Int := (List.range n).map fun a : Nat => (a : Int)
noncomputable def pruneL (R : RPr) : Nat → List Int
  | 0 => allL R.labels.toNat
  | k + 1 => flexL (pathE R.lines (pruneL R k)) R.labels.toNat

/-- Where pruning ends. -/
def PruneEnd (R : RPr) (k : Nat) : Prop := pruneL R (k + 1) = [] ∨ pruneL R (k + 1) = pruneL R k
structure PruneIs (R : RPr) (L : List (List Int)) : Prop where
  ex : ∃ k, PruneEnd R k ∧ (∀ j < k, ¬ PruneEnd R j) ∧ L = (List.range (k + 2)).map (pruneL R)
theorem PruneIs.unique {R : RPr} {L M : List (List Int)} (h : PruneIs R L) (h' : PruneIs R M) : L = M := by
  obtain ⟨k, h1, h2, rfl⟩ := h.ex
  obtain ⟨j, h3, h4, rfl⟩ := h'.ex
  rcases Nat.lt_trichotomy k j with hlt | rfl | hgt
  · exact absurd h1 (h4 k hlt)
  · rfl
  · exact absurd h3 (h2 j hgt)

theorem lt_sub_sublist : ∀ {l m : List Int}, l.Pairwise (· < ·) → m.Pairwise (· < ·) → (∀ x ∈ l, x ∈ m) → l.Sublist m
  | [], m, _, _, _ => List.nil_sublist m
  | a :: l, [], _, _, h => by have := h a (by simp); simp at this
  | a :: l, b :: m, h1, h2, h => by
    rw [List.pairwise_cons] at h1 h2
    rcases List.mem_cons.1 (h a (by simp)) with he | hm
    · subst he
      refine (lt_sub_sublist h1.2 h2.2 fun x hx => ?_).cons_cons a
      rcases List.mem_cons.1 (h x (by simp [hx])) with h3 | h3
      · subst h3; have := h1.1 x hx; omega
      · exact h3
    · refine (lt_sub_sublist (l := a :: l) (List.pairwise_cons.2 h1) h2.2 fun x hx => ?_).cons b
      rcases List.mem_cons.1 hx with rfl | hx
      · exact hm
      · rcases List.mem_cons.1 (h x (by simp [hx])) with h3 | h3
        · subst h3
          have := h1.1 x hx
          have := h2.1 a hm
          omega
        · exact h3

/-! ### The labels of roots -/

theorem allL_mem {n : Nat} {x : Int} : x ∈ allL n ↔ ∃ a : Nat, x = a ∧ a < n := by
  unfold allL
  rw [List.mem_map]
  exact ⟨fun ⟨a, h, e⟩ => ⟨a, e.symm, List.mem_range.1 h⟩, fun ⟨a, e, h⟩ => ⟨a, List.mem_range.2 h, e.symm⟩⟩
end Go.Proofs.YtaeledhbkdakcaaGreatDoor
end

section
/- Walk problems, the program: what follows a label, what walks reach. -/
namespace Go.Proofs.YtaeledhbkdakcaaGreatDoor
open Go.GX Go.RowKit
set_option maxRecDepth 100000

structure RWk (w : World) (s : Sl) (p : WPr) : Prop where
  lab : I64 p.labels
  arcs : R w s p.arcs
theorem RWk.ext {w w' : World} {s : Sl} {p : WPr} (h : RWk w s p) (hE : Ext w w') : RWk w' s p := ⟨h.lab, h.arcs.ext hE⟩

theorem LD_is {w : World} {p : Addr} {t : TypeId} {x : Int} {z : Sl} {r : List Value} {K : Int → Sl → Prop} (hb : Box w p t (.int .i64 x :: z.v :: r)) (hk : K x z) : LD [.int .i64, .sl] p w K := by
  refine ⟨[.int .i64 x, z.v], rfl, fun i v hv => ?_, hk⟩
  match i, hv with
  | 0, hv => exact hb.cell (i := 0) hv
  | 1, hv => exact hb.cell (i := 1) hv
  | i + 2, hv => simp at hv

theorem one2 (x : Int) (z : Sl) : ∀ v ∈ [Value.int .i64 x, z.v], v.oneCell' = true := by intro v hv; simp at hv; rcases hv with rfl | rfl <;> rfl

/-- The arcs are pairs of labels. -/
theorem WGood.arc {p : WPr} (h : WGood p) {x : List Int} (hx : x ∈ p.arcs) : ∃ a b : Nat, x = [(a : Int), (b : Int)] ∧ a < p.labels.toNat ∧ b < p.labels.toNat := by
  have h1 := h.up.len x hx
  have h2 := h.up.lab x hx
  match x, h1, h2 with
  | [u, v], _, h2 =>
    have h3 := h2 u (by simp)
    have h4 := h2 v (by simp)
    exact ⟨u.toNat, v.toNat, by rw [Int.toNat_of_nonneg h3.1, Int.toNat_of_nonneg h4.1], by omega, by omega⟩
theorem WGood.rel {p : WPr} (h : WGood p) {a b : Nat} (he : arcE p.arcs a b) : a < p.labels.toNat ∧ b < p.labels.toNat := by
  obtain ⟨c, d, e, h1, h2⟩ := h.arc he
  simp only [List.cons.injEq, and_true] at e
  omega

noncomputable def afterL (A : List (List Int)) (n : Nat) : List Int := (List.range n).map fun a => ((maskP n (arcE A a) : Nat) : Int)
theorem afterL_len (A : List (List Int)) (n : Nat) : (afterL A n).length = n := by simp [afterL]
theorem afterL_get {A : List (List Int)} {n a : Nat} (h : a < (afterL A n).length) : (afterL A n)[a] = ((maskP n (arcE A a) : Nat) : Int) := by simp [afterL]
theorem mask_I64 {n : Nat} (hn : n ≤ 12) (P : Nat → Prop) : I64 ((maskP n P : Nat) : Int) := by
  have := maskP_small hn P
  unfold I64; omega
theorem afterL_I64 {A : List (List Int)} {n : Nat} (hn : n ≤ 12) : ∀ x ∈ afterL A n, I64 x := fun x hx => by
  obtain ⟨a, _, rfl⟩ := List.mem_map.1 hx
  exact mask_I64 hn _

theorem after_step {A : List (List Int)} {n i a b : Nat} (hi : i < A.length) (he : A[i] = [(a : Int), (b : Int)]) : afterL (A.take (i + 1)) n = (afterL (A.take i) n).set a ((maskP n (fun c => arcE (A.take i) a c ∨ c = b) : Nat) : Int) := by
  apply List.ext_getElem
  · simp [afterL]
  · intro c h1 h2
    have hc : c < n := by rw [afterL_len] at h1; exact h1
    rw [afterL_get h1, List.getElem_set, List.take_succ_eq_append_getElem hi, he]
    by_cases hac : a = c
    · subst hac
      rw [if_pos rfl]
      congr 1
      refine maskP_congr fun d hd => ?_
      unfold arcE
      rw [List.mem_append, List.mem_singleton]
      simp only [List.cons.injEq, true_and, and_true, Int.natCast_inj]
    · rw [if_neg hac, afterL_get]
      congr 1
      refine maskP_congr fun d hd => ?_
      unfold arcE
      rw [List.mem_append, List.mem_singleton]
      simp only [List.cons.injEq, and_true, Int.natCast_inj]
      exact ⟨fun h => h.resolve_right fun h => hac h.1.symm, .inl⟩

theorem after_ok {w : World} {s : Sl} {p : WPr} (h : RWk w s p) (hg : WGood p) :
    Calls Tryz.prog F.i_WalkProblem_after #[.agg #[.int .i64 p.labels, s.v]] w (Ret [.at .sl] fun (r : Sl) w' => Ext w w' ∧ OwnL w' w.heap.size T.t_int r (afterL p.arcs p.labels.toNat)) := by
  refine C_i_WalkProblem_after ?_
  unfold V_i_WalkProblem_after
  refine NEW_intro fun pp w1 hp1 hs1 hE1 hb1 => LD_bi0 hb1 ?_
  have hl := hg.lab
  obtain ⟨n, hn⟩ : ∃ n : Nat, p.labels = n := ⟨p.labels.toNat, by omega⟩
  have hnt : p.labels.toNat = n := by omega
  rw [hnt, hn]
  refine RUN_make (α := Int) slt_int (d := 0) rfl (by omega) (by unfold maxLen; omega) fun r w2 hE2 hO2 => ?_
  have hE12 := hE1.trans hE2
  have hz1 := hE1.size_le
  have h2 := h.ext hE12
  refine LD_bs1 (hb1.ext hE2) ?_
  rw [h.arcs.len]
  refine ⟨IN p.arcs.length fun i w' => Ext w w' ∧ OwnL w' w1.heap.size T.t_int r (afterL (p.arcs.take i) n), MN p.arcs.length, IN_zero ⟨hE12, ?_⟩, ?_⟩
  · have e : afterL (p.arcs.take 0) n = List.replicate n 0 := by
      apply List.ext_getElem
      · simp [afterL]
      · intro c h1 h2
        rw [afterL_get h1, List.getElem_replicate, maskP_none]
        · rfl
        · intro a _ ha; simp [arcE] at ha
    rw [e]; exact hO2
  rintro _ w3 ⟨i, rfl, hi, hE3, hO3⟩
  intros
  refine cond_dec (fun hlt => ?_) (fun hge => ?_)
  · have hi' : i < p.arcs.length := by omega
    refine (h.arcs.ext hE3).ixL hi' fun q row hrow hc => LD_sl hc ?_
    intro w4 hE4 _
    obtain ⟨a, b, he, ha, hb⟩ := hg.arc (List.getElem_mem hi')
    rw [hnt] at ha hb
    rw [he] at hrow
    have hrow4 := hrow.any.ext hE4
    have hO4 := hO3.ext hE4
    have han : a < (afterL (p.arcs.take i) n).length := by rw [afterL_len]; exact ha
    refine ⟨fun _ => False, ?_⟩
    refine hrow4.ixI (i := 0) (by simp) fun q0 _ hc0 => ⟨not_false, LD_int hc0 ?_⟩
    refine (hO4.rep (afterL_I64 (by omega))).any.ixI (i := a) han fun q1 _ hc1 => ⟨not_false, LD_int hc1 ⟨Chg.refl _ _, ?_⟩⟩
    refine hrow4.ixI (i := 1) (by simp) fun q2 _ hc2 => ⟨Chg.refl _ _, LD_int hc2 ⟨Chg.refl _ _, ?_⟩⟩
    show (0 : Int) ≤ (b : Int) ∧ _
    refine ⟨by omega, Chg.refl _ _, Chg.refl _ _, ?_⟩
    rw [afterL_get han]
    have e3 : bitOr .i64 ((maskP n (arcE (p.arcs.take i) a) : Nat) : Int) (shlI .i64 1 (b : Int)) = ((maskP n (fun c => arcE (p.arcs.take i) a c ∨ c = b) : Nat) : Int) := by
      rw [shl_maskP (by omega) hb, or_maskP (by omega)]
    refine IX_own hO4 han rfl fun q3 hq3 => ?_
    refine ST_own hO4 han hq3 (bitOr .i64 ((maskP n (arcE (p.arcs.take i) a) : Nat) : Int) (shlI .i64 1 (b : Int))) rfl fun w5 hO5 hs5 => ?_
    rw [e3, ← after_step hi' he] at hO5
    exact IN_next h.arcs.le hi' ⟨hs5.ext0 (hE3.trans hE4) fun k hk => by have := (hO3.blk k hk).1; omega, hO5⟩
  · have : i = p.arcs.length := by omega
    subst this
    rw [List.take_length] at hO3
    exact ⟨hE3, hO3.low hz1⟩

/-! ### What walks reach -/

noncomputable def reachL (E : Nat → Nat → Prop) (n a m : Nat) : List Int := (List.range m).map fun k => ((maskP n (fun b => Wk E k a b) : Nat) : Int)
theorem reachL_len (E : Nat → Nat → Prop) (n a m : Nat) : (reachL E n a m).length = m := by simp [reachL]
theorem reachL_get {E : Nat → Nat → Prop} {n a m k : Nat} (h : k < (reachL E n a m).length) : (reachL E n a m)[k] = ((maskP n (fun b => Wk E k a b) : Nat) : Int) := by simp [reachL]
theorem reachL_I64 {E : Nat → Nat → Prop} {n a m : Nat} (hn : n ≤ 12) : ∀ x ∈ reachL E n a m, I64 x := fun x hx => by
  obtain ⟨a, _, rfl⟩ := List.mem_map.1 hx
  exact mask_I64 hn _
theorem reachL_snoc (E : Nat → Nat → Prop) (n a m : Nat) : reachL E n a (m + 1) = reachL E n a m ++ [((maskP n (fun b => Wk E m a b) : Nat) : Int)] := by
  unfold reachL
  rw [List.range_succ, List.map_append, List.map_singleton]

theorem reached_ok {w : World} {s : Sl} {p : WPr} {a m : Nat} (h : RWk w s p) (hg : WGood p) (ha : a < p.labels.toNat) (hm : m ≤ 1000) :
    Calls Tryz.prog F.i_WalkProblem_reached #[.agg #[.int .i64 p.labels, s.v], .int .i64 a, .int .i64 m] w (Ret [.at .sl] fun (r : Sl) w' => Ext w w' ∧ OwnL w' w.heap.size T.t_int r (reachL (arcE p.arcs) p.labels.toNat a (m + 1))) := by
  refine C_i_WalkProblem_reached ?_
  unfold V_i_WalkProblem_reached
  refine NEW_intro fun pp w1 hp1 hs1 hE1 hb1 => LD_is hb1 ?_
  have hl := hg.lab
  generalize hE' : arcE p.arcs = E
  refine call (after_ok (h.ext hE1) hg) ?_
  rintro t w2 ⟨hE2, hO2⟩
  have hrel : ∀ x y, E x y → x < p.labels.toNat ∧ y < p.labels.toNat := fun x y hxy => hg.rel (by rw [hE']; exact hxy)
  generalize hnt : p.labels.toNat = n at *
  have hn12 : n ≤ 12 := by omega
  have hR2 : R w2 t (afterL p.arcs n) := (hO2.rep (afterL_I64 hn12)).any
  have hE12 := hE1.trans hE2
  refine ⟨by omega, ?_⟩
  refine RUN_lit1 (α := Int) slt_int (shlI .i64 1 (a : Int)) rfl (by decide) fun r w3 hE3 hO3 => ?_
  have hz1 := hE1.size_le
  have hz2 := hE2.size_le
  have hz3 := hE3.size_le
  refine ⟨IN2 m fun k (out : Sl) w' => Ext w2 w' ∧ OwnL w' w2.heap.size T.t_int out (reachL E n a (k + 1)), MN2 m, IN2_zero ⟨hE3, ?_⟩, ?_⟩
  · have e : reachL E n a (0 + 1) = [shlI .i64 1 (a : Int)] := by
      rw [reachL_snoc, shl_maskP hn12 ha]
      simp only [reachL, List.range_zero, List.map_nil, List.nil_append, List.cons.injEq, and_true]
      congr 1
      exact maskP_congr fun b _ => ⟨fun h => (show b = a from (show a = b from h).symm), fun h => (show a = b from h.symm)⟩
    rw [e]; exact hO3
  rintro out _ w4 ⟨k, rfl, hk, hE4, hO4⟩
  intros
  refine cond_dec (fun hlt => ?_) (fun hge => ?_)
  · have hk' : k < m := by omega
    have hkl : k < (reachL E n a (k + 1)).length := by rw [reachL_len]; omega
    refine (hO4.rep (reachL_I64 hn12)).any.ixI hkl fun q _ hc => LD_int hc ?_
    rw [reachL_get hkl]
    refine call (labels12_ok (maskP_small hn12 _) w4) ?_
    rintro u w5 ⟨hE5, hO5⟩
    generalize hL : labs (maskP n fun b => Wk E k a b) = L at hO5
    have hL64 : ∀ x ∈ L, I64 x := by subst hL; exact labs_I64 _
    have hLlen : L.length ≤ 12 := by subst hL; exact labs_len _
    have hLm : ∀ x, x ∈ L ↔ ∃ b : Nat, x = b ∧ b < n ∧ Wk E k a b := by subst hL; exact fun x => mem_labsP hn12
    have hRu := (hO5.rep hL64).any
    have hE25 := hE4.trans hE5
    rw [hRu.len]
    refine ⟨IN2 L.length fun j (x : Int) w' => w' = w5 ∧ x = ((maskP n (fun c => ∃ b : Nat, (b : Int) ∈ L.take j ∧ E b c) : Nat) : Int), MN2 L.length, IN2_zero ⟨rfl, ?_⟩, ?_⟩
    · rw [maskP_none (fun c _ => by simp)]; rfl
    rintro _ _ _ ⟨j, rfl, hj, rfl, rfl⟩
    intros
    refine cond_dec (fun hlt2 => ?_) (fun hge2 => ?_)
    · have hj' : j < L.length := by omega
      refine hRu.ixI hj' fun q2 _ hc2 => LD_int hc2 ?_
      obtain ⟨b, hb, hbn, hbw⟩ := (hLm L[j]).1 (List.getElem_mem hj')
      rw [hb]
      have hbl : b < (afterL p.arcs n).length := by rw [afterL_len]; exact hbn
      refine (hR2.ext hE25).ixI hbl fun q3 _ hc3 => LD_int hc3 ?_
      rw [afterL_get hbl, hE', or_maskP hn12]
      refine IN2_next (by omega) hj' ⟨rfl, ?_⟩
      congr 1
      refine maskP_congr fun c _ => ?_
      rw [List.take_succ_eq_append_getElem hj', hb]
      constructor
      · rintro (⟨x, hx, hxe⟩ | hbe)
        · exact ⟨x, List.mem_append_left _ hx, hxe⟩
        · exact ⟨b, by simp, hbe⟩
      · rintro ⟨x, hx, hxe⟩
        rcases List.mem_append.1 hx with hx | hx
        · exact .inl ⟨x, hx, hxe⟩
        · have : x = b := by have := List.mem_singleton.1 hx; omega
          subst this
          exact .inr hxe
    · have : j = L.length := by omega
      subst this
      rw [List.take_length]
      have e4 : maskP n (fun c => ∃ b : Nat, (b : Int) ∈ L ∧ E b c) = maskP n (fun b => Wk E (k + 1) a b) := maskP_congr fun c _ => by
        constructor
        · rintro ⟨b, hb, he⟩
          obtain ⟨b', e, _, hw⟩ := (hLm b).1 hb
          have : b = b' := by omega
          subst this
          exact ⟨b, hw, he⟩
        · rintro ⟨b, hw, he⟩
          exact ⟨b, (hLm b).2 ⟨b, rfl, (hrel b c he).1, hw⟩, he⟩
      rw [e4]
      refine RUN_lit1 (α := Int) slt_int (((maskP n (fun b => Wk E (k + 1) a b) : Nat) : Int)) rfl (by decide) fun y w7 hE7 hO7 => ?_
      have hz4 := hE4.size_le
      have hE57 := hE5.trans hE7
      have hz57 := hE57.size_le
      refine RUN_append (α := Int) slt_int (hO4.ext hE57) (by omega) (hO7.rep (by intro x hx; rw [List.mem_singleton.1 hx]; exact mask_I64 hn12 _)).any (by rw [reachL_len]; simp; omega) (by rw [reachL_len]; simp [maxLen]; omega) fun r' w8 hO8 hs8 => ?_
      rw [← reachL_snoc] at hO8
      exact IN2_next (by omega) hk' ⟨hs8.ext0 (hE4.trans hE57) fun b hb => (hO4.blk b hb).1, hO8⟩
  · have : k = m := by omega
    subst this
    exact ⟨hE12.trans hE4, hO4.low (by omega)⟩

end Go.Proofs.YtaeledhbkdakcaaGreatDoor
end

section
/- A growing list of lists (of any kind) whose parts are only read: the array is the call's own, its parts lie elsewhere. -/
namespace Go.GX
open Go.RowKit
set_option maxRecDepth 100000

/-- Arrays of different kinds lie apart. -/
theorem own_apart {α β : Type} [Flat α] [Flat β] {w : World} {base base' : Nat} {e e' : TypeId} {s s' : Sl} {l : List α} {l' : List β} (h : OwnL w base e s l) (h' : OwnL w base' e' s' l') (hne : e ≠ e') : ∀ b, s.v.ownBlock = some b → ¬ s'.v.ownBlock = some b := fun b hb hb' => by
  obtain ⟨c1, e1⟩ := h.type hb
  obtain ⟨c2, e2⟩ := h'.type hb'
  rw [e1] at e2
  exact hne (Obj.cells.inj (Option.some.inj e2)).2.1

structure RowsR {α : Type} [RepP α] (base : Nat) (e : TypeId) (w : World) (s : Sl) (L : List (List α)) : Prop where
  ex : ∃ ss : List Sl, OwnL w base e s ss ∧ ss.length = L.length ∧ ∀ j (h1 : j < ss.length) (h2 : j < L.length), SlR (fun b => s.v.ownBlock ≠ some b) w ss[j] L[j]

section
variable {α : Type} [RepP α] {base : Nat} {e : TypeId} {w w' : World} {s : Sl} {L : List (List α)}

theorem RowsR.rep (h : RowsR base e w s L) : R w s L := by
  obtain ⟨ss, hO, hl, hr⟩ := h.ex
  exact OwnL.rows (D := fun _ => True) hO hl (fun j h1 h2 => (hr j h1 h2).any) fun _ _ => trivial
theorem RowsR.ext (h : RowsR base e w s L) (hE : Ext w w') : RowsR base e w' s L := by
  obtain ⟨ss, hO, hl, hr⟩ := h.ex
  exact ⟨ss, hO.ext hE, hl, fun j h1 h2 => (hr j h1 h2).ext hE⟩
theorem RowsR.nil (base : Nat) (e : TypeId) (w : World) : RowsR base e w ⟨none, 0, 0⟩ ([] : List (List α)) := ⟨[], OwnL.nil _ _ _, rfl, fun j h1 => by simp at h1⟩
theorem RowsR.blk (h : RowsR base e w s L) {k : Nat} (hk : s.v.ownBlock = some k) : base ≤ k ∧ k < w.heap.size := by
  obtain ⟨ss, hO, _⟩ := h.ex
  exact hO.blk k hk
theorem RowsR.low (h : RowsR base e w s L) {b : Nat} (hb : b ≤ base) : RowsR b e w s L := by
  obtain ⟨ss, hO, hl, hr⟩ := h.ex
  exact ⟨ss, hO.low hb, hl, hr⟩
/-- A list of one, its part made before the array. -/
theorem RowsR.one {b1 : Nat} {w0 : World} {r : Sl} {l : List α} (hE : Ext w0 w) (hO : OwnL w b1 e s [r]) (hb1 : w0.heap.size ≤ b1) (hb : base ≤ b1) (hR : R w0 r l) : RowsR base e w s [l] :=
  ⟨_, hO.low hb, rfl, fun j h1 h2 => by
    have hj : j = 0 := by simp at h2; omega
    subst hj
    have hk : ∀ b, True → b < w0.heap.size → s.v.ownBlock ≠ some b := fun b _ hlt he => by have := (hO.blk b he).1; omega
    exact (hR.weak hk RepP.pos).ext hE⟩

/-- What is made after w0 does not lie in an array that was there. -/
theorem RowsR.new (h : RowsR base e w s L) {w1 : World} {r : Sl} {β : Type} [RepP β] {l : List β} (hr : SlR (fun b => w.heap.size ≤ b) w1 r l) : SlR (fun b => s.v.ownBlock ≠ some b) w1 r l :=
  hr.weak (fun b hb _ he => by have := (h.blk he).2; omega) RepP.pos

/-- The same, the parts lying off some more blocks. -/
structure RowsX (X : Nat → Prop) (base : Nat) (e : TypeId) (w : World) (s : Sl) (L : List (List α)) : Prop where
  ex : ∃ ss : List Sl, OwnL w base e s ss ∧ ss.length = L.length ∧ ∀ j (h1 : j < ss.length) (h2 : j < L.length), SlR (fun b => s.v.ownBlock ≠ some b ∧ ¬ X b) w ss[j] L[j]

theorem RowsX.rep {X : Nat → Prop} (h : RowsX X base e w s L) : R w s L := by
  obtain ⟨ss, hO, hl, hr⟩ := h.ex
  exact OwnL.rows (D := fun _ => True) hO hl (fun j h1 h2 => (hr j h1 h2).any) fun _ _ => trivial
theorem RowsX.ext {X : Nat → Prop} (h : RowsX X base e w s L) (hE : Ext w w') : RowsX X base e w' s L := by
  obtain ⟨ss, hO, hl, hr⟩ := h.ex
  exact ⟨ss, hO.ext hE, hl, fun j h1 h2 => (hr j h1 h2).ext hE⟩
theorem RowsX.nil (X : Nat → Prop) (base : Nat) (e : TypeId) (w : World) : RowsX X base e w ⟨none, 0, 0⟩ ([] : List (List α)) := ⟨[], OwnL.nil _ _ _, rfl, fun j h1 => by simp at h1⟩
theorem RowsX.blk {X : Nat → Prop} (h : RowsX X base e w s L) {k : Nat} (hk : s.v.ownBlock = some k) : base ≤ k ∧ k < w.heap.size := by
  obtain ⟨ss, hO, _⟩ := h.ex
  exact hO.blk k hk
/-- Something outside the array changes. -/
theorem RowsX.chg {X X' : Nat → Prop} (h : RowsX X base e w s L) (hC : Chg w w' X) (hs : ∀ b, s.v.ownBlock = some b → ¬ X b) (hX : ∀ b, X' b → b < w.heap.size → X b) : RowsX X' base e w' s L := by
  obtain ⟨ss, hO, hl, hr⟩ := h.ex
  exact ⟨ss, hO.keep fun b hb => hC.block b (hO.blk b hb).2 (hs b hb), hl, fun j h1 h2 =>
    ((hr j h1 h2).weak (D' := fun b => (s.v.ownBlock ≠ some b ∧ ¬ X b) ∧ ¬ X' b) (fun b h3 h4 => ⟨h3, fun hx => h3.2 (hX b hx h4)⟩) RepP.pos).chg hC (fun b hb _ => hb.1.2) |>.weak (fun b hb _ => ⟨hb.1.1, hb.2⟩) RepP.pos⟩

theorem RUN_append_X {X : Nat → Prop} {P : Program} {t : TypeId} {bytes : Nat} {z : Value} (hT : SlT P t e 1 bytes z) {b1 : Nat} {y r : Sl} {l : List α} (h : RowsX X base e w s L) (hbase : base ≤ w.heap.size) (hE : Ext w w') (hr : SlR (fun b => s.v.ownBlock ≠ some b ∧ ¬ X b) w' r l)
    (hy : OwnL w' b1 e y [r]) (hlen : (L.length + 1) * bytes ≤ 140737488355328) (hmax : L.length + 1 ≤ maxLen) {K : Sl → World → Prop}
    (hk : ∀ s' w2, RowsX X base e w2 s' (L ++ [l]) → Step w' w2 s.v.ownBlock → NewOr w' s s' → K s' w2) : RUN P (.at .sl) (bsem .append #[t, t] t #[s.v, y.v]) w' K := by
  obtain ⟨ss, hO, hl, hss⟩ := h.ex
  have hO1 := hO.ext hE
  have hsz := hE.size_le
  refine RUN_appendF (α := Sl) hT hO1 (by omega) (hy.rep fun _ _ => trivial) (by simpa [hl] using hlen) (by simpa [hl] using hmax) fun s' w2 hO2 hs2 hN => hk s' w2 ⟨_, hO2, by simp [hl], fun j h1 h2 => ?_⟩ hs2 hN
  have hw : ∀ b, s.v.ownBlock ≠ some b → b < w'.heap.size → s'.v.ownBlock ≠ some b := fun b hb hlt he => by
    rcases hN with hN | hN
    · exact hb (hN ▸ he)
    · have := hN b he; omega
  have main : ∀ {r : Sl} {q : List α}, SlR (fun b => s.v.ownBlock ≠ some b ∧ ¬ X b) w' r q → SlR (fun b => s'.v.ownBlock ≠ some b ∧ ¬ X b) w2 r q := fun {r q} hR =>
    (SlR.stepD (hR.weak (D' := fun b => s.v.ownBlock ≠ some b ∧ s'.v.ownBlock ≠ some b ∧ ¬ X b) (fun b h3 h4 => ⟨h3.1, hw b h3.1 h4, h3.2⟩) RepP.pos) hs2 (fun b hb => hb.1)).weak (fun b hb _ => hb.2) RepP.pos
  by_cases hj : j < ss.length
  · have hjl : j < L.length := by omega
    rw [List.getElem_append_left hj, List.getElem_append_left hjl]
    exact main ((hss j hj hjl).ext hE)
  · have hjl : j = L.length := by simp at h2; omega
    subst hjl
    have e1 : (ss ++ [r])[L.length]'h1 = r := by
      rw [List.getElem_append_right (by omega)]; simp [hl]
    have e2 : (L ++ [l])[L.length]'h2 = l := by
      rw [List.getElem_append_right (by omega)]; simp
    rw [e1, e2]
    exact main hr

end
end Go.GX
end
