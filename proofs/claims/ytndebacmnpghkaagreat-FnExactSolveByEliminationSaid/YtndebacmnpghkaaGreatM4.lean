/- Own texts, merged: Copy, Lib, Order, RowsD, Mat, Conf, Delete, Compact, RowFun, RSort, RowSort, Prob, Trod, Open, Drop, Reduce. -/
import Derived.Test.YtndebacmnpghkaaGreatM3
import Derived.Laws.IdiomCopy
import Derived.Ground.Names2Prog
import Derived.Shelf.Slices.Delete
import Derived.Shelf.Slices.In.SortNone
import Derived.Ground.SlsfProg
import Derived.Shelf.SlSortCmp.Insertion
import Derived.Shelf.SlSortCmp.SiftDown1
import Derived.Shelf.SlSortCmp.HeapSort1
import Derived.Shelf.SlSortCmp.Insertion1
import Derived.Shelf.SlSortCmp.Median1
import Derived.Shelf.SlSortCmp.Pivot1
import Derived.Shelf.SlSortCmp.ReverseRange1
import Derived.Shelf.SlSortCmp.PartialInsertion1
import Derived.Shelf.SlSortCmp.PartitionEqual1
import Derived.Shelf.SlSortCmp.Partition1
import Derived.Shelf.SlSortCmp.Pdq1
import Derived.Shelf.SlSortCmp.Whole1
import Derived.Shelf.SlSortCmp.NoneTotal
import Derived.Test.YtndebacmnpghkaaGreatProg
import Derived.Deep.Slices
import Derived.Lib.SmallJoins
import Derived.OpenShut
import Derived.ShutString
import Derived.ChangeOld
import Derived.Carry
import Derived.ProofKit
set_option linter.unusedVariables false
section
/- Copying between slices, digits of numbers. No program is named here. -/
namespace Go.GX
open Go.RowKit

/-! ### Digits -/

theorem wrap_u64 {n : Int} (h0 : 0 ≤ n) (h1 : n < 18446744073709551616) : IntKind.u64.wrap n = n := by
  have e1 : (2 : Int) ^ 64 = 18446744073709551616 := rfl
  have hs : IntKind.u64.signed = false := rfl
  simp only [IntKind.wrap, IntKind.bits, hs, Bool.false_and, e1]
  rw [Int.emod_eq_of_lt h0 h1]; simp

theorem ofInt_toNat (n : Nat) (h : n < 18446744073709551616) : (BitVec.ofInt 64 (n : Int)).toNat = n := by
  rw [BitVec.toNat_ofInt]
  have : ((2 ^ 64 : Nat) : Int) = 18446744073709551616 := rfl
  rw [this]
  omega

theorem bitAnd_u64 (a b : Nat) (ha : a < 18446744073709551616) (hb : b < 18446744073709551616) : bitAnd .u64 a b = ((a &&& b : Nat) : Int) := by
  unfold bitAnd
  have h1 : (BitVec.ofInt IntKind.u64.bits (a : Int) &&& BitVec.ofInt IntKind.u64.bits (b : Int)).toNat = a &&& b := by
    show (BitVec.ofInt 64 (a : Int) &&& BitVec.ofInt 64 (b : Int)).toNat = a &&& b
    rw [BitVec.toNat_and, ofInt_toNat a ha, ofInt_toNat b hb]
  rw [h1]
  have := Nat.and_le_left (n := a) (m := b)
  exact wrap_u64 (by omega) (by omega)

theorem bitAnd_u64_low (a : Nat) (ha : a < 4294967296) : bitAnd .u64 a 4294967295 = a := by
  have := bitAnd_u64 a 4294967295 (by omega) (by omega)
  rw [show ((4294967295 : Nat) : Int) = 4294967295 from rfl] at this
  rw [this]
  congr 1
  have := Nat.and_two_pow_sub_one_eq_mod a 32
  rw [show (2 : Nat) ^ 32 - 1 = 4294967295 from rfl, show (2 : Nat) ^ 32 = 4294967296 from rfl] at this
  rw [this]
  exact Nat.mod_eq_of_lt ha

theorem shr_nat (k : IntKind) (a j : Nat) (hj : j ≤ k.bits) : shrI k a j = ((a / 2 ^ j : Nat) : Int) := by
  unfold shrI
  rw [Int.toNat_natCast, Nat.min_eq_left hj, Int.fdiv_eq_ediv_of_nonneg _ (Int.le_of_lt (Int.pow_pos (by decide)))]
  simp

/-! ### Cutting -/

/-- s[lo:] of a slice of the call's own. -/
theorem SLC_from {s : Sl} {lo : Nat} {sz : Nat} (hle : s.len ≤ s.cap) (hlo : lo ≤ s.len) {K : Sl → Prop}
    (hk : ∀ d : Sl, d.len = s.len - lo → (lo < s.len → d.a = s.a.map (·.add (lo * sz))) → K d) : SLC s (some (lo : Int)) none sz K := by
  refine ⟨by simp, by simp; omega, by simp; omega, hk _ ?_ ?_⟩
  · simp
  · intro hlt
    simp
    intro h; omega

theorem SLC_from' {s : Sl} {lo : Nat} {sz : Nat} (hle : s.len ≤ s.cap) (hlo : lo ≤ s.len) {K : Sl → Prop}
    (hk : ∀ d : Sl, d.len = s.len - lo → d.cap = s.cap - lo → (lo < s.len → d.a = s.a.map (·.add (lo * sz))) → K d) : SLC s (some (lo : Int)) none sz K := by
  refine ⟨by simp, by simp; omega, by simp; omega, hk _ ?_ ?_ ?_⟩
  · simp
  · simp
  · intro hlt
    simp
    intro h; omega

/-- s[:hi]. -/
theorem SLC_to {s : Sl} {hi : Nat} {sz : Nat} (hhi : hi ≤ s.cap) {K : Sl → Prop}
    (hk : ∀ d : Sl, d.len = hi → d.a = s.a → d.cap = s.cap → K d) : SLC s none (some (hi : Int)) sz K := by
  refine ⟨by simp, by simp, by simp; omega, hk _ (by simp) ?_ (by simp)⟩
  simp
  intro _
  cases s.a <;> simp [add_zero']

/-! ### copy -/

theorem flat1 {α : Type} [Flat α] (h1 : Rep.sz α = 1) (l : List α) : ∃ f : α → Value, l.flatMap Flat.cells = l.map f ∧ ∀ x ∈ l, Flat.cells x = [f x] := by
  refine ⟨fun x => (Flat.cells x).headD undef, ?_, ?_⟩
  · induction l with
    | nil => rfl
    | cons x r ih =>
      rw [List.flatMap_cons, List.map_cons, ih]
      have hx : (Flat.cells x).length = 1 := by rw [Flat.size]; exact h1
      match hc : Flat.cells x, hx with
      | [v], _ => rfl
  · intro x _
    have hx : (Flat.cells x).length = 1 := by rw [Flat.size]; exact h1
    match hc : Flat.cells x, hx with
    | [v], _ => simp [hc]

/-- copy(d, y): d a part, from place off on, of a slice of the call's own. -/
theorem RUN_copy {α : Type} [Flat α] (hα : Rep.sz α = 1) {P : Program} {t ti e : TypeId} {bytes : Nat} {z : Value} (hT : SlT P t e 1 bytes z) {w : World} {base : Nat} {s d y : Sl} {l m : List α} (h : OwnL w base e s l)
    {off : Nat} (hd : 0 < d.len → d.a = s.a.map (·.add off)) (hfit : off + d.len ≤ l.length) {D : Nat → Prop} (hy : SlR D w y m) {K : Int → World → Prop}
    (hk : ∀ w', OwnL w' base e s (l.take off ++ m.take d.len ++ l.drop (off + min m.length d.len)) → Step w w' s.v.ownBlock → w'.heap.size = w.heap.size → K ((min m.length d.len : Nat) : Int) w') :
    RUN P (.at (.int .i64)) (bsem .copy #[t, t] ti #[d.v, y.v]) w K := by
  obtain ⟨i, hi, hz0, hsz, hby⟩ := hT.parts
  have hs1 : (P.info? e).map (·.size) = some 1 := by rw [hi]; simp [hsz]
  have fin : ∀ n w', (Builtin.copy_ #[t, t] ti #[d.v, y.v]).run P w = .ok (goInt n) w' → K (n : Int) w' → RUN P (.at (.int .i64)) (bsem .copy #[t, t] ti #[d.v, y.v]) w K := by
    intro n w' hr hK
    unfold RUN
    show (match (Builtin.copy_ #[t, t] ti #[d.v, y.v]).run P w with | .ok v w' => _ | .halt _ _ => False)
    rw [hr]
    exact hK
  have hyl := hy.len
  by_cases hmin : min m.length d.len = 0
  · refine fin 0 w ?_ ?_
    · exact run_copy_none (P := P) w t t ti e d.a y.a d.len d.cap y.len y.cap hT.under hs1 (by rw [hyl]; exact hmin)
    · have := hk w ?_ (Step.refl _ _) rfl
      · rwa [hmin] at this
      · rw [hmin]
        have : m.take d.len = [] := by
          apply List.eq_nil_of_length_eq_zero; rw [List.length_take]; omega
        rw [this]
        simpa using h
  · have hm0 : 0 < m.length := by omega
    have hd0 : 0 < d.len := by omega
    rcases h.2.2 with ⟨hv, h0⟩ | ⟨g, cap, cur, hv, hb, hg, hle, hmx, hcs, htake⟩
    · have := h.1; omega
    · have hv' := hv
      simp [Sl.v] at hv
      obtain ⟨hsa, rfl⟩ := hv
      have hda : d.a = some ⟨g, off, none⟩ := by
        rw [hd hd0, hsa]
        simp only [Option.map_some, Addr.add]
        split <;> simp_all
      obtain ⟨ya, _, hya, _⟩ := hy.2.2 0 m[0] (by simp [hm0])
      obtain ⟨f, hf, hf1⟩ := flat1 hα m
      obtain ⟨fl, hfl, hl1⟩ := flat1 hα l
      have hsrc := hy.flat hya
      rw [hf] at hsrc
      have hll := h.1
      rw [hα] at hcs htake
      rw [hfl] at htake
      have hcsz : cur.size = s.cap := by omega
      have hone : ∀ v ∈ m.map f, v.oneCell' = true := by
        intro v hv
        obtain ⟨x, hx, rfl⟩ := List.mem_map.1 hv
        exact Flat.one x _ (by rw [hf1 x hx]; simp)
      have hr := run_copy_row (P := P) w t t ti e g off d.len d.cap ya y.len y.cap cur e ((m.map f).take d.len) hT.under hs1 hg (by rw [List.length_take, List.length_map, hyl]; exact Nat.min_comm _ _) (fun j v hj => hsrc j v (by
          rw [List.getElem?_take] at hj
          split at hj
          · exact hj
          · cases hj)) (by rw [List.length_take, List.length_map]; omega) (fun v hv => hone v (List.mem_of_mem_take hv))
      have hdv : d.v = .slice (some ⟨g, off, none⟩) d.len d.cap := by simp [Sl.v, hda]
      have hyv : y.v = .slice (some ya) y.len y.cap := by simp [Sl.v, hya]
      rw [← hdv, ← hyv] at hr
      have hlen : ((m.map f).take d.len).length = min m.length d.len := by rw [List.length_take, List.length_map]; exact Nat.min_comm _ _
      refine fin _ _ hr ?_
      rw [hlen]
      refine hk _ ?_ ⟨rfl, rfl, rfl, by simp, fun k _ hne => setRow_other _ _ _ _ (by intro he; subst he; exact hne (by rw [hv']; rfl))⟩ (by simp)
      refine ⟨?_, ?_, ?_⟩
      · simp only [List.length_append, List.length_take, List.length_drop]; omega
      · have hall : ∀ q : List α, (q.flatMap Flat.cells).length = q.length := by
          intro q
          obtain ⟨fq, hfq, _⟩ := flat1 hα q
          rw [hfq]; simp
        rw [hall, hα]
        simp only [List.length_append, List.length_take, List.length_drop]; omega
      · refine .inr ⟨g, s.cap, _, hv', hb, setRow_heap _ _ _ _ _ _ hg, hle, hmx, ?_, ?_⟩
        · rw [hα]
          simp only [List.size_toArray, List.length_append, List.length_take, List.length_drop, List.length_map, Array.length_toList]
          omega
        · rw [hα, Nat.mul_one]
          have e1 : (l.take off ++ m.take d.len ++ l.drop (off + min m.length d.len)).flatMap Flat.cells = (l.map fl).take off ++ (m.map f).take d.len ++ (l.map fl).drop (off + min m.length d.len) := by
            rw [List.flatMap_append, List.flatMap_append]
            have hsub : ∀ (q : List α) (g : α → Value), (∀ x ∈ q, Flat.cells x = [g x]) → q.flatMap Flat.cells = q.map g := by
              intro q g hq
              induction q with
              | nil => rfl
              | cons x r ih => rw [List.flatMap_cons, hq x (by simp), ih (fun y hy => hq y (by simp [hy]))]; rfl
            rw [hsub (l.take off) fl (fun x hx => hl1 x (List.mem_of_mem_take hx)), hsub (m.take d.len) f (fun x hx => hf1 x (List.mem_of_mem_take hx)), hsub (l.drop _) fl (fun x hx => hl1 x (List.mem_of_mem_drop hx)), List.map_take, List.map_take, List.map_drop]
          rw [e1]
          have hcl : (l.map fl) = cur.toList.take s.len := by rw [← htake, Nat.mul_one]
          rw [hcl]
          have hcl2 : cur.toList.length = s.cap := by simp [hcsz]
          apply List.ext_getElem?
          intro j
          simp only [List.getElem?_take, List.getElem?_append, List.getElem?_drop, List.length_append, List.length_take, List.length_map, hcl2]
          by_cases hj : j < s.len
          · by_cases h1 : j < off
            · have a1 : j < min off s.cap := by omega
              have a2 : j < min off s.cap + min d.len m.length := by omega
              have a3 : j < min off (min s.len s.cap) := by omega
              have a4 : j < min off (min s.len s.cap) + min d.len m.length := by omega
              simp only [hj, h1, a1, a2, a3, a4, if_true]
            · by_cases h2 : j < off + min m.length d.len
              · have a1 : ¬ j < min off s.cap := by omega
                have a2 : j < min off s.cap + min d.len m.length := by omega
                have a3 : ¬ j < min off (min s.len s.cap) := by omega
                have a4 : j < min off (min s.len s.cap) + min d.len m.length := by omega
                simp only [hj, a1, a2, a3, a4, if_true, if_false]
                rw [show j - min off s.cap = j - min off (min s.len s.cap) by omega]
              · have a2 : ¬ j < min off s.cap + min d.len m.length := by omega
                have a4 : ¬ j < min off (min s.len s.cap) + min d.len m.length := by omega
                simp only [hj, a2, a4, if_true, if_false]
                rw [show off + min m.length d.len + (j - (min off s.cap + min d.len m.length)) = j by omega, show off + min m.length d.len + (j - (min off (min s.len s.cap) + min d.len m.length)) = j by omega, if_pos hj]
          · have a4 : ¬ j < min off (min s.len s.cap) + min d.len m.length := by omega
            simp only [hj, a4, if_false]
            rw [if_neg (by omega)]

/-! ### clear, and the first part of a slice of the call's own -/

theorem RUN_clear {P : Program} {t ti e : TypeId} {bytes : Nat} {z : Value} (hT : SlT P t e 1 bytes z) (hz : z.cells = #[z]) {w : World} {d : Sl} {a : Addr} (hd : d.a = some a) (hn : 0 < d.len) {K : Value → World → Prop}
    (h : ST a 0 (List.replicate d.len z) w (K (.tuple #[]))) : RUN P (.at .val) (bsem .clear #[t] ti #[d.v]) w K := by
  obtain ⟨i, hi, hz0, hsz, hby⟩ := hT.parts
  obtain ⟨w', hr, hk⟩ := ST_run (P := P) h
  have hzv : (zeroValue e).run P w = .ok z w := by simp [zeroValue, typeInfo, program, Sem.run, hi, hz0]
  have hzc : (Builtin.zeroCells z.cells d.len).toList = List.replicate d.len z := by
    rw [hz]
    simp [Builtin.zeroCells]
    apply List.ext_getElem
    · simp
    · intro i h1 h2
      simp [Nat.mod_one]
  have hrun : (Builtin.clear_ #[t] ti #[d.v]).run P w = .ok (.tuple #[]) w' := by
    obtain ⟨m, hm⟩ : ∃ m, d.len = m + 1 := ⟨d.len - 1, by omega⟩
    rw [hm] at hzc hr
    have hdv : d.v = .slice (some a) (m + 1) d.cap := by simp [Sl.v, hd, hm]
    rw [hdv]
    simp [Builtin.clear_, underlying_run hT.under, hzv, hzc, hr]
  unfold RUN
  show (match (Builtin.clear_ #[t] ti #[d.v]).run P w with | .ok v w' => _ | .halt _ _ => False)
  rw [hrun]
  exact hk

theorem OwnL.front {α : Type} [Flat α] {w : World} {base : Nat} {e : TypeId} {s : Sl} {l : List α} (h : OwnL w base e s l) {k : Nat} (hk : k ≤ l.length) : OwnL w base e ⟨s.a, k, s.cap⟩ (l.take k) := by
  have hlen : ∀ q : List α, (q.flatMap Flat.cells).length = q.length * Rep.sz α := by
    intro q
    induction q with
    | nil => simp
    | cons x r ih => rw [List.flatMap_cons, List.length_append, ih, Flat.size x, List.length_cons, Nat.succ_mul, Nat.add_comm]
  refine ⟨by simp; omega, ?_, ?_⟩
  · rw [hlen, List.length_take, Nat.min_eq_left hk]
  · rcases h.2.2 with ⟨hv, h0⟩ | ⟨g, cap, cur, hv, hb, hg, hle, hmx, hsz, htake⟩
    · simp [Sl.v] at hv
      have := h.1
      refine .inl ⟨?_, by simp only; omega⟩
      simp [Sl.v, hv.1]
      omega
    · have hv' := hv
      simp [Sl.v] at hv
      have hl := h.1
      refine .inr ⟨g, cap, cur, ?_, hb, hg, by simp only; omega, hmx, hsz, ?_⟩
      · simp [Sl.v, hv.1, hv.2]
      · have hk2 : ((l.take k).flatMap Flat.cells).length = k * Rep.sz α := by rw [hlen, List.length_take, Nat.min_eq_left hk]
        have e2 : (l.take k).flatMap Flat.cells = (l.flatMap Flat.cells).take (k * Rep.sz α) := by
          have e3 : l.flatMap Flat.cells = (l.take k).flatMap Flat.cells ++ (l.drop k).flatMap Flat.cells := by rw [← List.flatMap_append, List.take_append_drop]
          rw [e3, ← hk2, List.take_left]
        rw [e2, ← htake, List.take_take]
        have : k * Rep.sz α ≤ s.len * Rep.sz α := Nat.mul_le_mul_right _ (by omega)
        rw [Nat.min_eq_left this]

/-- Clearing the last part of a slice of the call's own, from place i on. -/
theorem RUN_clearI {P : Program} {t ti e : TypeId} {bytes : Nat} (hT : SlT P t e 1 bytes (.int .i64 0)) {w : World} {base : Nat} {s d : Sl} {l : List Int} (h : OwnL w base e s l) {i : Nat} (hi : i < l.length) (hd : d.a = s.a.map (·.add i)) (hdl : d.len = l.length - i) {K : Value → World → Prop}
    (hk : ∀ w', OwnL w' base e s (l.take i ++ List.replicate (l.length - i) 0) → Step w w' s.v.ownBlock → K (.tuple #[]) w') : RUN P (.at .val) (bsem .clear #[t] ti #[d.v]) w K := by
  rcases h.2.2 with ⟨hv, h0⟩ | ⟨g, cap, cur, hv, hb, hg, hle, hmx, hsz, htake⟩
  · have := h.1; omega
  · have hv' := hv
    simp [Sl.v] at hv
    obtain ⟨hsa, rfl⟩ := hv
    have hf : ∀ q : List Int, q.flatMap Flat.cells = q.map (Value.int .i64) := by
      intro q
      induction q with
      | nil => rfl
      | cons x r ih => rw [List.flatMap_cons, ih]; rfl
    have hda : d.a = some ((⟨g, 0, none⟩ : Addr).add i) := by rw [hd, hsa]; rfl
    have hown : w.ownsRow base e 1 (.slice (some ⟨g, 0, none⟩) s.len s.cap) s.len (l.map (Value.int .i64)) := by
      have := h.2; unfold Own at this; rw [hv', hf] at this; exact this
    refine RUN_clear hT rfl hda (by omega) ?_
    refine setMany_own (List.replicate d.len (.int .i64 0)) i _ w _ hown (by intro v hv; rw [List.eq_of_mem_replicate hv]; rfl) (by simp; omega) (fun w' hw' hs => hk w' ⟨by simp; have := h.1; omega, ?_⟩ (by rw [hv']; exact hs)) _ 0 (by simp only [Addr.add]; split <;> simp_all)
    unfold Own
    rw [hv', hf]
    have e1 : (l.take i ++ List.replicate (l.length - i) 0).map (Value.int .i64) = (l.map (Value.int .i64)).take i ++ List.replicate d.len (.int .i64 0) ++ (l.map (Value.int .i64)).drop (i + (List.replicate d.len (Value.int .i64 0)).length) := by
      rw [List.drop_of_length_le (by simp; omega)]
      simp [hdl]
    rw [e1]
    exact hw'

end Go.GX
end

section
/- Contracts of functions of the library: Mul, Repeat. -/
namespace Go.Proofs.YtndebacmnpghkaaGreat
open Go.GX Go.RowKit
set_option maxRecDepth 100000

theorem mul_ok {x y : Nat} (h : x * y < 4294967296) (hx : x < 4294967296) (hy : y < 4294967296) (w : World) :
    Calls Tryz.prog F.math_bits_Mul #[.int .u64 x, .int .u64 y] w (Ret [.at (.int .u64), .at (.int .u64)] fun (a b : Int) w' => a = 0 ∧ b = ((x * y : Nat) : Int) ∧ w = w') := by
  refine C_math_bits_Mul ?_
  unfold V_math_bits_Mul
  refine call (Q := fun (a b : Int) w' => a = 0 ∧ b = ((x * y : Nat) : Int) ∧ w = w') (C_math_bits_Mul64 ?_) (fun a b w' h => h)
  unfold V_math_bits_Mul64
  refine ⟨by decide, by decide, by decide, by decide, by decide, ?_⟩
  have s0 : ∀ a : Nat, a < 4294967296 → shrI .u64 a 32 = 0 := fun a ha => by
    have := shr_nat .u64 a 32 (by decide)
    rw [show ((32 : Nat) : Int) = 32 from rfl] at this
    rw [this, Nat.div_eq_of_lt (by simpa using ha)]; rfl
  have wr : ∀ a : Nat, a < 4294967296 → IntKind.u64.wrap (a : Int) = a := fun a ha => wrap_u64 (by omega) (by omega)
  have z0 : shrI .u64 0 32 = 0 := s0 0 (by omega)
  have w0 : IntKind.u64.wrap 0 = 0 := wr 0 (by omega)
  have b0 : bitAnd .u64 0 4294967295 = 0 := bitAnd_u64_low 0 (by omega)
  rw [s0 x hx, s0 y hy, bitAnd_u64_low x hx, bitAnd_u64_low y hy, ← Int.natCast_mul, wr _ h, s0 _ h]
  simp only [Int.zero_mul, Int.mul_zero, w0, z0, b0, Int.add_zero]
  exact ⟨trivial, trivial, trivial⟩

theorem repl_step {n k : Nat} {v : Int} (hk : k ≤ n) (h0 : 0 < k) : ((List.replicate k v ++ List.replicate (n - k) 0).take k ++ (List.replicate k v).take (n - k) ++ (List.replicate k v ++ List.replicate (n - k) 0).drop (k + min (List.replicate k v).length (n - k))) = List.replicate (k + min k (n - k)) v ++ List.replicate (n - (k + min k (n - k))) (0 : Int) := by
  simp only [List.length_replicate]
  rw [List.take_append_of_le_length (by simp), List.take_replicate, Nat.min_self, List.take_replicate, List.drop_append, List.drop_eq_nil_of_le (by simp), List.nil_append, List.drop_replicate, List.length_replicate, List.replicate_append_replicate]
  congr 2
  · omega
  · omega

theorem repeat_ok {w : World} {s : Sl} {v : Int} (h : R w s [v]) (hv : I64 v) {n : Nat} (hn : n ≤ 1048576) :
    Calls Tryz.prog F.slices_Repeat_sl_int_int #[s.v, .int .i64 n] w (Ret [.at .sl] fun (r : Sl) w' => Ext w w' ∧ OwnL w' w.heap.size T.t_int r (List.replicate n v)) := by
  refine C_slices_Repeat_sl_int_int ?_
  unfold V_slices_Repeat_sl_int_int
  refine cond_df (by omega) ?_
  have hsl : s.len = 1 := h.len
  rw [hsl, wrap_u64 (by omega) (by omega), wrap_u64 (by omega) (by omega)]
  refine call (mul_ok (x := 1) (y := n) (by omega) (by omega) (by omega) w) ?_
  rintro a b _ ⟨rfl, rfl, rfl⟩
  refine cond_df (by omega) ?_
  refine cond_df (by omega) ?_
  unfold V_slices_Repeat_sl_int_int_k2
  rw [Nat.one_mul, wrap_of (by omega) (by omega)]
  refine RUN_make (α := Int) slt_int (d := 0) rfl (by omega) (by unfold maxLen; omega) fun r w1 hE1 hO1 => ?_
  have hrl : r.len = n := by rw [hO1.1]; simp
  refine RUN_copy (α := Int) rfl slt_int hO1 (off := 0) (d := r) (fun _ => by cases r.a <;> simp [add_zero']) (by simp [hrl]) (h.ext hE1) fun w2 hO2 hs2 _ => ?_
  have hE2 := hs2.ext0 hE1 (fun k hk => (hO1.blk k hk).1)
  refine ⟨fun x w' => ∃ k : Nat, x = k ∧ k ≤ n ∧ (0 < n → 0 < k) ∧ Ext w w' ∧ OwnL w' w.heap.size T.t_int r (List.replicate k v ++ List.replicate (n - k) 0), fun x _ => n - x.toNat, ⟨min 1 n, ?_, by omega, by omega, hE2, ?_⟩, ?_⟩
  · simp [hrl]
  · rcases Nat.eq_zero_or_pos n with h0 | h0
    · subst h0
      simpa [hrl] using hO2
    · have e1 : min 1 n = 1 := by omega
      rw [e1]
      have e2 : (List.take 0 (List.replicate n (0 : Int)) ++ List.take r.len [v] ++ List.drop (0 + min [v].length r.len) (List.replicate n 0)) = List.replicate 1 v ++ List.replicate (n - 1) 0 := by
        rw [hrl]
        simp [List.take_of_length_le (l := [v]) (i := n) (by simp; omega), e1]
      rw [← e2]; exact hO2
  rintro x w3 ⟨k, rfl, hk, hpos, hE3, hO3⟩
  intros
  refine cond_dec (fun hlt => ?_) (fun hge => ?_)
  · have hkn : k < n := by omega
    have hk0 : 0 < k := hpos (by omega)
    intro w4 hE4 hheap
    refine ⟨fun _ => True, ?_⟩
    have hcap : r.len ≤ r.cap := ((hO3.rep (by intro x hx; rcases List.mem_append.1 hx with h1 | h1 <;> rw [List.eq_of_mem_replicate h1]; exact hv; exact ⟨by decide, by decide⟩)).2.1).1
    refine SLC_from hcap (by omega) fun d hdl hda => ⟨Chg.refl _ _, ?_⟩
    refine SLC_to (by omega) fun y hyl hya hyc => ⟨Chg.refl _ _, ?_⟩
    have hO4 := hO3.ext hE4
    have hR4 := hO4.rep (by intro x hx; rcases List.mem_append.1 hx with h1 | h1 <;> rw [List.eq_of_mem_replicate h1]; exact hv; exact ⟨by decide, by decide⟩)
    have hRy : R w4 y (List.replicate k v) := by
      refine ⟨by simp [hyl], ⟨by omega, by have := hR4.2.1.2; omega⟩, fun i x hx => ?_⟩
      obtain ⟨a, cs, h1, _, h3, h4⟩ := hR4.2.2 i x (by
        obtain ⟨hi, _⟩ := List.getElem?_eq_some_iff.1 hx
        rw [List.getElem?_append_left hi]; exact hx)
      exact ⟨a, cs, by rw [hya]; exact h1, trivial, h3, h4⟩
    refine RUN_copy (α := Int) rfl slt_int hO4 (off := k) (d := d) (fun hd0 => by rw [hda (by omega)]; simp) (by simp; omega) hRy fun w5 hO5 hs5 _ => ?_
    rw [hdl, hrl] at hO5 ⊢
    rw [repl_step hk hk0] at hO5
    have hmin : min (List.replicate k v).length (n - k) = min k (n - k) := by simp
    refine ⟨.of_step hs5 fun _ _ => trivial, .of_step hs5 fun _ _ => trivial, ?_⟩
    rw [hmin, wrap_of (by omega) (by omega)]
    exact ⟨⟨k + min k (n - k), by omega, by omega, by omega, hs5.ext0 (hE3.trans hE4) (fun b hb => (hO4.blk b hb).1), hO5⟩, by show n - (_ : Int).toNat < n - (_ : Int).toNat; omega⟩
  · have : k = n := by omega
    subst this
    exact ⟨hE3, by simpa using hO3⟩

theorem l1Own_ok {w : World} {s : Sl} {l : List Int} (h : R w s l) (hl : l.length ≤ 1048576) :
    Calls Tryz.prog F.s_l1Own #[s.v] w (Ret [.at .sl] fun (r : Sl) w' => Ext w w' ∧ OwnL w' w.heap.size T.t_int r l) := by
  refine C_s_l1Own ?_
  unfold V_s_l1Own
  refine RUN_lit0 (α := Int) slt_int fun r w1 hE1 hO1 => ?_
  refine RUN_append (α := Int) slt_int hO1 hE1.size (h.ext hE1) (by simp; omega) (by simp [maxLen]; omega) fun r' w2 hO2 hs => ?_
  exact ⟨hs.ext0 hE1 (fun k hk => (hO1.blk k hk).1), by simpa using hO2⟩

end Go.Proofs.YtndebacmnpghkaaGreat
end

section
/- Orders of nodes; sets that are kept in order; GreedyIndependent, both sides. -/
namespace Go.Proofs.YtndebacmnpghkaaGreat
open Go.GX Go.RowKit
set_option maxRecDepth 100000

theorem slt_bool : SlT Tryz.prog T.t_sl_bool T.t_bool 1 1 (.bool false) := ⟨by kernel_rfl, by kernel_rfl, rfl, by decide⟩

structure PermOk (l : List Int) (k : Nat) : Prop where
  len : l.length = k
  all : AllIn l 0 (k - 1)
  nodup : l.Nodup

theorem PermOk.node {l : List Int} {k : Nat} (h : PermOk l k) : ∀ x ∈ l, ∃ u : Nat, x = u ∧ u < k := fun x hx => by
  have := h.all x hx
  exact ⟨x.toNat, by omega, by omega⟩

/-! ### Lists in order -/

theorem sorted_ext : ∀ {a b : List Int}, a.Pairwise (· < ·) → b.Pairwise (· < ·) → (∀ x, x ∈ a ↔ x ∈ b) → a = b
  | [], [], _, _, _ => rfl
  | [], y :: b, _, _, h => by have := (h y).2 (by simp); cases this
  | x :: a, [], _, _, h => by have := (h x).1 (by simp); cases this
  | x :: a, y :: b, ha, hb, h => by
    obtain ⟨ha1, ha2⟩ := List.pairwise_cons.1 ha
    obtain ⟨hb1, hb2⟩ := List.pairwise_cons.1 hb
    have hxy : x = y := by
      have h1 := (h x).1 (by simp)
      have h2 := (h y).2 (by simp)
      rcases List.mem_cons.1 h1 with h3 | h3
      · exact h3
      · rcases List.mem_cons.1 h2 with h4 | h4
        · exact h4.symm
        · have := hb1 x h3; have := ha1 y h4; omega
    subst hxy
    rw [sorted_ext ha2 hb2 fun z => ?_]
    constructor
    · intro hz
      rcases List.mem_cons.1 ((h z).1 (by simp [hz])) with h3 | h3
      · have := ha1 z hz; omega
      · exact h3
    · intro hz
      rcases List.mem_cons.1 ((h z).2 (by simp [hz])) with h3 | h3
      · have := hb1 z hz; omega
      · exact h3

/-- A slice's last elements. -/
theorem slr_drop {α : Type} [RepP α] {D : Nat → Prop} {w : World} {s : Sl} {l : List α} (h : SlR D w s l) {i : Nat} (hi : i ≤ l.length) {sz : Nat} (hsz : sz = Rep.sz α) {K : Sl → Prop} (hk : ∀ s', SlR D w s' (l.drop i) → K s') : SLC s (some (i : Int)) none sz K := by
  subst hsz
  have h1 := h.1
  have h2 := h.2.1
  refine SLC_from' h2.1 (by omega) fun d hd hc ha => hk d ⟨by simp; omega, by omega, fun j x hx => ?_⟩
  rw [List.getElem?_drop] at hx
  have hlt := (List.getElem?_eq_some_iff.1 hx).1
  obtain ⟨a, cs, e1, e2, e3, e4⟩ := h.2.2 (i + j) x hx
  refine ⟨a.add (i * Rep.sz α), cs, by rw [ha (by omega), e1]; rfl, by rw [add_block]; exact e2, e3, fun t v ht => ?_⟩
  rw [add_add, show i * Rep.sz α + (j * Rep.sz α + t) = (i + j) * Rep.sz α + t by rw [Nat.add_mul]; omega]
  exact e4 t v ht

theorem l1Put_D {D : Nat → Prop} {w : World} {s : Sl} {l : List Int} (h : SlR D w s l) (hl : l.length ≤ 100000) (hsorted : l.Pairwise (· < ·)) {n : Int} (hn : I64 n) :
    Calls Tryz.prog F.s_l1Put #[s.v, .int .i64 n] w (Ret [.at .sl] fun (r : Sl) w' => Ext w w' ∧ ∃ m, SlR (fun b => D b ∨ w.heap.size ≤ b) w' r m ∧ m.Pairwise (· < ·) ∧ (∀ x, x ∈ m ↔ x ∈ l ∨ x = n) ∧ m.length ≤ l.length + 1) := by
  refine C_s_l1Put ?_
  unfold V_s_l1Put
  rw [h.len]
  have hfin : ∀ k : Nat, k ≤ l.length → (∀ x ∈ l.take k, x < n) → (∀ x ∈ l.drop k, n ≤ x) → V_s_l1Put_k1 s n (fun (r : Sl) w' => Ext w w' ∧ ∃ m, SlR (fun b => D b ∨ w.heap.size ≤ b) w' r m ∧ m.Pairwise (· < ·) ∧ (∀ x, x ∈ m ↔ x ∈ l ∨ x = n) ∧ m.length ≤ l.length + 1) (k : Int) w := by
    intro k hk hlo hhi
    unfold V_s_l1Put_k1
    have hput : n ∉ l → V_s_l1Put_k4 s n (fun (r : Sl) w' => Ext w w' ∧ ∃ m, SlR (fun b => D b ∨ w.heap.size ≤ b) w' r m ∧ m.Pairwise (· < ·) ∧ (∀ x, x ∈ m ↔ x ∈ l ∨ x = n) ∧ m.length ≤ l.length + 1) (k : Int) w := by
      intro hnl
      unfold V_s_l1Put_k4
      refine RUN_lit0 (α := Int) slt_int fun r1 w1 hE1 hO1 => ?_
      have h1 := h.ext hE1
      refine h1.take hk rfl fun s1 hs1 => ?_
      have htl : (l.take k).length ≤ 100000 := by simp; omega
      have hdl : (l.drop k).length ≤ 100000 := by simp; omega
      refine RUN_append (α := Int) slt_int hO1 hE1.size_le hs1 (by simp; omega) (by simp [maxLen]; omega) fun r2 w2 hO2 hs2 => ?_
      have hE2 := hs2.ext0 hE1 (fun k hk => (hO1.blk k hk).1)
      refine RUN_lit1 (α := Int) slt_int n rfl (by decide) fun r3 w3 hE3 hO3 => ?_
      have hO2' := hO2.ext hE3
      refine RUN_append (α := Int) slt_int hO2' (hE2.trans hE3).size_le (hO3.rep (by intro z hz; simp at hz; subst hz; exact hn)).any (by simp; omega) (by simp [maxLen]; omega) fun r4 w4 hO4 hs4 => ?_
      have hE4 := hs4.ext0 (hE2.trans hE3) (fun k hk => (hO2'.blk k hk).1)
      refine slr_drop (h.ext hE4) hk rfl fun s5 hs5 => ?_
      refine RUN_append (α := Int) slt_int hO4 hE4.size_le hs5 (by simp; omega) (by simp [maxLen]; omega) fun r6 w6 hO6 hs6 => ?_
      have hE6 := hs6.ext0 hE4 (fun k hk => (hO4.blk k hk).1)
      refine ⟨hE6, _, (hO6.rep ?_).weak (fun b hb _ => .inr hb) RepP.pos, ?_, ?_, ?_⟩
      · intro x hx
        simp only [List.mem_append, List.mem_singleton, List.not_mem_nil, false_or] at hx
        rcases hx with (h7 | h7) | h7
        · exact flat_ok h.any x (List.mem_of_mem_take h7)
        · rw [h7]; exact hn
        · exact flat_ok h.any x (List.mem_of_mem_drop h7)
      · have hp := hsorted
        rw [← List.take_append_drop k l, List.pairwise_append] at hp
        simp only [List.nil_append, List.append_assoc]
        rw [List.pairwise_append]
        refine ⟨hp.1, ?_, ?_⟩
        · simp only [List.singleton_append, List.pairwise_cons]
          refine ⟨fun x hx => ?_, hp.2.1⟩
          have h8 := hhi x hx
          have : x ≠ n := fun he => hnl (he ▸ List.mem_of_mem_drop hx)
          omega
        · intro x hx y hy
          simp only [List.singleton_append, List.mem_cons] at hy
          rcases hy with rfl | hy
          · exact hlo x hx
          · exact hp.2.2 x hx y hy
      · intro x
        simp only [List.mem_append, List.mem_singleton, List.not_mem_nil, false_or]
        constructor
        · rintro ((h7 | h7) | h7)
          · exact .inl (List.mem_of_mem_take h7)
          · exact .inr h7
          · exact .inl (List.mem_of_mem_drop h7)
        · rintro (h7 | h7)
          · rw [← List.take_append_drop k l] at h7
            rcases List.mem_append.1 h7 with h8 | h8
            · exact .inl (.inl h8)
            · exact .inr h8
          · exact .inl (.inr h7)
      · simp; omega
    rw [h.len]
    refine cond_dec (fun hlt => ?_) (fun hge => ?_)
    · have hk' : k < l.length := by omega
      refine h.ixI hk' fun q _ hc => LD_int hc ?_
      refine cond_eq (fun he => ?_) (fun hne => hput fun hm => ?_)
      · refine ⟨Ext.refl _, l, h.weak (fun b hb _ => .inl hb) RepP.pos, hsorted, fun x => ⟨.inl, ?_⟩, by omega⟩
        rintro (h7 | h7)
        · exact h7
        · rw [h7, ← he]; exact List.getElem_mem hk'
      · rw [← List.take_append_drop k l] at hm
        rcases List.mem_append.1 hm with h7 | h7
        · have := hlo n h7; omega
        · rw [List.drop_eq_getElem_cons hk'] at h7
          rcases List.mem_cons.1 h7 with h8 | h8
          · exact hne h8.symm
          · have hp := hsorted
            rw [← List.take_append_drop k l, List.pairwise_append] at hp
            have := hp.2.1
            rw [List.drop_eq_getElem_cons hk', List.pairwise_cons] at this
            have h9 := this.1 n h8
            have h10 := hhi l[k] ((List.drop_eq_getElem_cons hk').symm ▸ List.mem_cons_self)
            omega
    · refine hput fun hm => ?_
      have : k = l.length := by omega
      subst this
      have := hlo n (by simpa using hm)
      omega
  refine ⟨IN l.length fun k w' => w = w' ∧ ∀ x ∈ l.take k, x < n, MN l.length, IN_zero ⟨rfl, by simp⟩, ?_⟩
  rintro _ w1 ⟨k, rfl, hk, rfl, hlo⟩
  intros
  refine cond_dec (fun hlt => ?_) (fun hge => ?_)
  · have hk' : k < l.length := by omega
    refine h.ixI hk' fun q _ hc => LD_int hc ?_
    refine cond_dec (fun h1 => IN_next h.le hk' ⟨rfl, fun x hx => ?_⟩) (fun h1 => hfin k hk hlo fun x hx => ?_)
    · rw [List.take_succ_eq_append_getElem hk'] at hx
      rcases List.mem_append.1 hx with h2 | h2
      · exact hlo x h2
      · rw [List.mem_singleton.1 h2]; exact h1
    · rw [List.drop_eq_getElem_cons hk'] at hx
      have hp := hsorted
      rw [← List.take_append_drop k l, List.pairwise_append] at hp
      have := hp.2.1
      rw [List.drop_eq_getElem_cons hk', List.pairwise_cons] at this
      rcases List.mem_cons.1 hx with rfl | h2
      · omega
      · have := this.1 x h2; omega
  · have : k = l.length := by omega
    subst this
    exact hfin _ (Nat.le_refl _) hlo (by simp)

/-! ### The greedy set -/

instance (E : Ends) (l : List Int) (v : Nat) : Decidable (Apart E l v) := by unfold Apart; exact inferInstance

/-- May a node join? -/
def joins (E : Ends) (S : List Int) (v : Int) : Prop := (adjOf E v.toNat).contains v = false ∧ Apart E S v.toNat
instance (E : Ends) (S : List Int) (v : Int) : Decidable (joins E S v) := by unfold joins; exact inferInstance
structure OrderAsked (n : Net) (l : List Int) : Prop where
  good : Good n
  perm : PermOk l n.ends.length

theorem sortI_I64 {l : List Int} (h : ∀ x ∈ l, I64 x) : ∀ x ∈ sortI l, I64 x := fun x hx => h x ((sortI_perm l).mem_iff.1 hx)
theorem sortI_len (l : List Int) : (sortI l).length = l.length := (sortI_perm l).length_eq

end Go.Proofs.YtndebacmnpghkaaGreat
end

section
/- Lists of lists of the call's own whose rows lie apart: rows that are written, that grow, that are added. No program is named here. -/
namespace Go.GX
open Go.RowKit

/-- The slice s of the call's own holds the rows ss, which read as the lists L and lie in blocks of their own. -/
structure RowsD {α : Type} [Flat α] (w : World) (base : Nat) (e e' : TypeId) (s : Sl) (L : List (List α)) (ss : List Sl) : Prop where
  own : OwnL w base e' s ss
  len : ss.length = L.length
  row : ∀ (i : Nat) (r : Sl) (l : List α), ss[i]? = some r → L[i]? = some l → OwnL w base e r l
  apart : ∀ (i j : Nat) (r q : Sl), ss[i]? = some r → ss[j]? = some q → i ≠ j → ∀ k, r.v.ownBlock = some k → q.v.ownBlock ≠ some k

section
variable {α : Type} [Flat α] {w w' : World} {base : Nat} {e e' : TypeId} {s : Sl} {L : List (List α)} {ss : List Sl}

theorem RowsD.own2 (h : RowsD w base e e' s L ss) : Own2 w base e e' s L := ⟨ss, h.own, h.len, h.row⟩
theorem RowsD.rep (h : RowsD w base e e' s L ss) (hok : ∀ l ∈ L, ∀ x ∈ l, Flat.ok x) : R w s L := h.own2.rep hok
theorem RowsD.nil (w : World) (base : Nat) (e e' : TypeId) : RowsD w base e e' ⟨none, 0, 0⟩ ([] : List (List α)) [] := ⟨OwnL.nil _ _ _, rfl, fun i r l h => by simp at h, fun i j r q h => by simp at h⟩
theorem RowsD.keep (h : RowsD w base e e' s L ss) (hk : ∀ k, base ≤ k → k < w.heap.size → w'.heap[k]? = w.heap[k]?) : RowsD w' base e e' s L ss :=
  ⟨h.own.keep fun k hb => hk k (h.own.blk k hb).1 (h.own.blk k hb).2, h.len, fun i r l hr hl => (h.row i r l hr hl).keep fun k hb => hk k ((h.row i r l hr hl).blk k hb).1 ((h.row i r l hr hl).blk k hb).2, h.apart⟩
theorem RowsD.ext (h : RowsD w base e e' s L ss) (hE : Ext w w') : RowsD w' base e e' s L ss := h.keep fun _ _ hk => hE.same hk
theorem RowsD.low (h : RowsD w base e e' s L ss) {b : Nat} (hb : b ≤ base) : RowsD w b e e' s L ss := ⟨h.own.low hb, h.len, fun i r l hr hl => (h.row i r l hr hl).low hb, h.apart⟩

theorem RowsD.at (h : RowsD w base e e' s L ss) {i : Nat} (hi : i < L.length) : ∃ r, ss[i]? = some r ∧ OwnL w base e r L[i] := by
  have h1 : i < ss.length := by rw [h.len]; exact hi
  exact ⟨ss[i], by simp [h1], h.row i ss[i] L[i] (by simp [h1]) (by simp [hi])⟩

/-- Looking up a row. -/
theorem RowsD.ix (h : RowsD w base e e' s L ss) {i : Nat} (hi : i < L.length) {K : Addr → Prop} (hk : ∀ p r, ss[i]? = some r → OwnL w base e r L[i] → w.cell? p = some r.v → s.v.ownBlock = some p.block → K p) : IX s i 1 K := by
  obtain ⟨r, hr, hO⟩ := h.at hi
  obtain ⟨a, cs, ha, _, hrep, hc⟩ := (h.own.rep fun _ _ => trivial).2.2 i r hr
  have hcs : cs = [r.v] := hrep
  subst hcs
  have hlen := h.own.1
  have hl2 := h.len
  refine ⟨a, ha, by omega, by omega, hk _ r hr hO (hc 0 _ rfl) ?_⟩
  have hsv : s.v = .slice (some a) s.len s.cap := by simp [Sl.v, ha]
  rw [hsv, add_block]
  rcases h.own.2.2 with ⟨hv, h0⟩ | ⟨g, cap, cur, hv, _⟩
  · omega
  · rw [hsv] at hv
    obtain ⟨h1, _⟩ := Value.slice.inj hv
    cases h1
    rfl

/-- The place of a row. -/
theorem RowsD.ixP (h : RowsD w base e e' s L ss) {i : Nat} (hi : i < L.length) {K : Addr → Prop} (hk : ∀ p, Plc s i 1 p → K p) : IX s i 1 K := IX_own h.own (by rw [h.len]; exact hi) rfl hk

theorem RowsD.block_ne (h : RowsD w base e e' s L ss) (hne : e ≠ e') {i : Nat} {r : Sl} (hr : ss[i]? = some r) {k : Nat} (hk : r.v.ownBlock = some k) : s.v.ownBlock ≠ some k := fun he => by
  have hi : i < L.length := by rw [← h.len]; exact (List.getElem?_eq_some_iff.1 hr).1
  obtain ⟨c1, e1⟩ := (h.row i r L[i] hr (by simp [hi])).type hk
  obtain ⟨c2, e2⟩ := h.own.type he
  rw [e1] at e2
  exact hne (Obj.cells.inj (Option.some.inj e2)).2.1

/-- A row that is written in place. -/
theorem RowsD.chg (h : RowsD w base e e' s L ss) (hne : e ≠ e') {i : Nat} {r : Sl} (hr : ss[i]? = some r) {l' : List α} (hO : OwnL w' base e r l') (hs : Step w w' r.v.ownBlock) : RowsD w' base e e' s (L.set i l') ss := by
  have hi : i < L.length := by rw [← h.len]; exact (List.getElem?_eq_some_iff.1 hr).1
  refine ⟨h.own.keep fun k hk => hs.block k (h.own.blk k hk).2 fun he => h.block_ne hne hr he.symm hk, by simp [h.len], fun j q l hq hl => ?_, h.apart⟩
  by_cases hji : j = i
  · subst hji
    rw [List.getElem?_set_self hi] at hl
    rw [hr] at hq
    cases hl; cases hq
    exact hO
  · rw [List.getElem?_set_ne (Ne.symm hji)] at hl
    have hq' := h.row j q l hq hl
    exact hq'.keep fun k hk => hs.block k (hq'.blk k hk).2 fun he => h.apart i j r q hr hq (Ne.symm hji) k he.symm hk

/-- A row that is replaced: what it became lies in its block or in a new one. -/
theorem RowsD.put (h : RowsD w base e e' s L ss) (hne : e ≠ e') {i : Nat} (hi : i < L.length) {r r' : Sl} (hr : ss[i]? = some r) {w1 : World} {l' : List α} (hO : OwnL w1 base e r' l') (hs : Step w w1 r.v.ownBlock) (hn : NewOr w r r') {p : Addr} (hp : Plc s i 1 p) {K : World → Prop}
    (hk : ∀ w2, RowsD w2 base e e' s (L.set i l') (ss.set i r') → Step w1 w2 s.v.ownBlock → K w2) : ST p 0 [r'.v] w1 K := by
  have hi' : i < ss.length := by rw [h.len]; exact hi
  have hown : OwnL w1 base e' s ss := h.own.keep fun k hk => hs.block k (h.own.blk k hk).2 fun he => h.block_ne hne hr he.symm hk
  have hlt : ∀ (j : Nat) (q : Sl), ss[j]? = some q → ∀ k, q.v.ownBlock = some k → k < w.heap.size := fun j q hq k hk => by
    have hj : j < L.length := by rw [← h.len]; exact (List.getElem?_eq_some_iff.1 hq).1
    exact ((h.row j q L[j] hq (by simp [hj])).blk k hk).2
  have hap : ∀ (j : Nat) (q : Sl), ss[j]? = some q → j ≠ i → ∀ k, r'.v.ownBlock = some k → q.v.ownBlock ≠ some k := fun j q hq hji k hk hqk => by
    rcases hn with hn | hn
    · rw [hn] at hk
      exact h.apart i j r q hr hq (Ne.symm hji) k hk hqk
    · have := hn k hk
      have := hlt j q hq k hqk
      omega
  refine ST_own hown hi' (p := p) hp r' rfl fun w2 hO2 hs2 => hk w2 ⟨hO2, by simp [h.len], fun j q l hq hl => ?_, fun j k q q' hq hq' hjk => ?_⟩ hs2
  · have hst : ∀ {q : Sl} {l : List α}, OwnL w1 base e q l → OwnL w2 base e q l := fun hq => hq.step hown hne hs2
    by_cases hji : j = i
    · subst hji
      rw [List.getElem?_set_self hi] at hl
      rw [List.getElem?_set_self hi'] at hq
      cases hl; cases hq
      exact hst hO
    · rw [List.getElem?_set_ne (Ne.symm hji)] at hl hq
      have hq' := h.row j q l hq hl
      exact hst (hq'.keep fun k hk => hs.block k (hq'.blk k hk).2 fun he => h.apart i j r q hr hq (Ne.symm hji) k he.symm hk)
  · by_cases hji : j = i
    · subst hji
      rw [List.getElem?_set_self hi'] at hq
      rw [List.getElem?_set_ne hjk] at hq'
      cases hq
      exact hap k q' hq' (Ne.symm hjk)
    · rw [List.getElem?_set_ne (Ne.symm hji)] at hq
      by_cases hki : k = i
      · subst hki
        rw [List.getElem?_set_self hi'] at hq'
        cases hq'
        exact fun b hb hb' => hap j q hq hji b hb' hb
      · rw [List.getElem?_set_ne (Ne.symm hki)] at hq'
        exact h.apart j k q q' hq hq' hjk

end

/-- One more row. -/
theorem RUN_append_rowDF {α : Type} [Flat α] {P : Program} {t e e' : TypeId} {bytes : Nat} {z : Value} (hT : SlT P t e' 1 bytes z) (hne : e ≠ e') {w : World} {base b1 : Nat} {s y r : Sl} {L : List (List α)} {ss : List Sl} {l : List α} (h : RowsD w base e e' s L ss) (hbase : base ≤ w.heap.size)
    (hr : OwnL w base e r l) (hnew : ∀ (j : Nat) (q : Sl), ss[j]? = some q → ∀ k, q.v.ownBlock = some k → r.v.ownBlock ≠ some k) (hy : OwnL w b1 e' y [r]) (hlen : (L.length + 1) * bytes ≤ 140737488355328) (hmax : L.length + 1 ≤ maxLen) {K : Sl → World → Prop}
    (hk : ∀ s' w', RowsD w' base e e' s' (L ++ [l]) (ss ++ [r]) → Step w w' s.v.ownBlock → NewOr w s s' → K s' w') : RUN P (.at .sl) (bsem .append #[t, t] t #[s.v, y.v]) w K := by
  have hl2 := h.len
  refine RUN_appendF (α := Sl) hT h.own hbase (hy.rep fun _ _ => trivial).any (by simp [hl2]; exact hlen) (by simp [hl2]; exact hmax) fun s' w' hO hs hN => hk s' w' ⟨hO, by simp [hl2], fun i q m hq hm => ?_, fun i j q q' hq hq' hij => ?_⟩ hs hN
  · by_cases hi : i < ss.length
    · rw [List.getElem?_append_left hi] at hq
      rw [List.getElem?_append_left (by omega)] at hm
      exact (h.row i q m hq hm).step h.own hne hs
    · rw [List.getElem?_append_right (by omega)] at hq
      rw [List.getElem?_append_right (by omega), ← hl2] at hm
      have : i - ss.length = 0 := by
        have := (List.getElem?_eq_some_iff.1 hq).1
        simp at this; omega
      rw [this] at hq hm
      simp at hq hm
      subst hq; subst hm
      exact hr.step h.own hne hs
  · have hcase : ∀ {i : Nat} {q : Sl}, (ss ++ [r])[i]? = some q → (i < ss.length ∧ ss[i]? = some q) ∨ (i = ss.length ∧ q = r) := fun {i q} hq => by
      by_cases hi : i < ss.length
      · rw [List.getElem?_append_left hi] at hq; exact .inl ⟨hi, hq⟩
      · rw [List.getElem?_append_right (by omega)] at hq
        have h1 := (List.getElem?_eq_some_iff.1 hq).1
        simp at h1
        have h2 : i = ss.length := by omega
        subst h2
        simp at hq
        exact .inr ⟨rfl, hq.symm⟩
    rcases hcase hq with ⟨h1, h2⟩ | ⟨h1, rfl⟩ <;> rcases hcase hq' with ⟨h3, h4⟩ | ⟨h3, rfl⟩
    · exact h.apart i j q q' h2 h4 hij
    · exact hnew i q h2
    · exact fun k hk hk' => hnew j q' h4 k hk' hk
    · omega

theorem RUN_append_rowD {α : Type} [Flat α] {P : Program} {t e e' : TypeId} {bytes : Nat} {z : Value} (hT : SlT P t e' 1 bytes z) (hne : e ≠ e') {w : World} {base b1 : Nat} {s y r : Sl} {L : List (List α)} {ss : List Sl} {l : List α} (h : RowsD w base e e' s L ss) (hbase : base ≤ w.heap.size)
    (hr : OwnL w base e r l) (hnew : ∀ (j : Nat) (q : Sl), ss[j]? = some q → ∀ k, q.v.ownBlock = some k → r.v.ownBlock ≠ some k) (hy : OwnL w b1 e' y [r]) (hlen : (L.length + 1) * bytes ≤ 140737488355328) (hmax : L.length + 1 ≤ maxLen) {K : Sl → World → Prop}
    (hk : ∀ s' w', RowsD w' base e e' s' (L ++ [l]) (ss ++ [r]) → Step w w' s.v.ownBlock → K s' w') : RUN P (.at .sl) (bsem .append #[t, t] t #[s.v, y.v]) w K :=
  RUN_append_rowDF hT hne h hbase hr hnew hy hlen hmax fun s' w' h1 h2 _ => hk s' w' h1 h2

/-- One more row, made behind the others. -/
theorem RowsD.fresh {α : Type} [Flat α] {w w' : World} {base b1 : Nat} {e e' : TypeId} {s r : Sl} {L : List (List α)} {ss : List Sl} {l : List α} (h : RowsD w base e e' s L ss) (hr : OwnL w' b1 e r l) (hb : w.heap.size ≤ b1) : ∀ (j : Nat) (q : Sl), ss[j]? = some q → ∀ k, q.v.ownBlock = some k → r.v.ownBlock ≠ some k := fun j q hq k hk hrk => by
  have hj : j < L.length := by rw [← h.len]; exact (List.getElem?_eq_some_iff.1 hq).1
  have h1 := ((h.row j q L[j] hq (by simp [hj])).blk k hk).2
  have h2 := (hr.blk k hrk).1
  omega

end Go.GX
end

section
/- What the laws do with matrices: copy, compare, measure. Turned from our texts on a network's ends. -/
namespace Go.Proofs.YtndebacmnpghkaaGreat
open Go.GX Go.RowKit
set_option maxRecDepth 100000

/-- A matrix of bounded size. -/
def SmallM (l : List (List Int)) : Prop := l.length ≤ 1048576 ∧ ∀ r ∈ l, r.length ≤ 1048576

theorem slt_rows : SlT Tryz.prog T.t_sl_sl_int T.t_sl_int 1 24 (.slice none 0 0) := ⟨by kernel_rfl, by kernel_rfl, rfl, by decide⟩

theorem toIntSS_own {w : World} {a : Sl} {l : List (List Int)} (h : R w a l) (hb : l.length ≤ 1048576) (hbb : ∀ r ∈ l, r.length ≤ 1048576) :
    Calls Tryz.prog F.l_toIntSS #[a.v] w (Ret [.at .sl] fun (s : Sl) w' => Ext w w' ∧ Own2 w' w.heap.size T.t_int T.t_sl_int s l) := by
  refine C_l_toIntSS ?_
  unfold V_l_toIntSS
  rw [h.len]
  refine RUN_make (α := Sl) slt_rows (d := ⟨none, 0, 0⟩) rfl (by omega) (by unfold maxLen; omega) fun s w1 hE1 hO1 => ?_
  refine ⟨IN l.length fun i w' => Ext w w' ∧ ∃ ss : List Sl, ss.length = l.length ∧ OwnL w' w.heap.size T.t_sl_int s ss ∧ ∀ (k : Nat) (q : Sl) (m : List Int), k < i → ss[k]? = some q → l[k]? = some m → OwnL w' w.heap.size T.t_int q m, MN l.length,
    IN_zero ⟨hE1, List.replicate l.length ⟨none, 0, 0⟩, by simp, hO1, fun k _ _ h3 => by omega⟩, ?_⟩
  rintro x w2 ⟨i, rfl, hi, hE, ss, hss, hO, hR⟩
  intros
  refine cond_dec (fun hlt => ?_) (fun hge => ?_)
  · have hlt' : i < l.length := by omega
    refine (h.ext hE).ixL hlt' fun p s' hs' hc => LD_sl hc ?_
    have hz := hE.size_le
    refine call (toIntS_ok hs'.any (hbb _ (List.getElem_mem _))) ?_
    rintro s3 w3 ⟨hE3, hO3⟩
    have hO' := hO.ext hE3
    refine IX_own hO' (by omega) rfl fun p hp => ?_
    refine ST_own hO' (by omega) hp s3 rfl fun w4 hO4 hs => ?_
    refine IN_next (by omega) hlt' ⟨hs.ext0 (hE.trans hE3) (fun k hk => (hO'.blk k hk).1), ss.set i s3, by simp [hss], hO4, fun k q m h1 h2 h3 => ?_⟩
    by_cases hk : k = i
    · subst hk
      rw [List.getElem?_set_self (by omega)] at h2
      rw [List.getElem?_eq_getElem hlt'] at h3
      cases h2
      cases h3
      exact (hO3.low hz).step hO' (by decide) hs
    · rw [List.getElem?_set_ne (Ne.symm hk)] at h2
      exact ((hR k q m (by omega) h2 h3).ext hE3).step hO' (by decide) hs
  · have : i = l.length := by omega
    subst this
    refine ⟨hE, ss, hO, hss, fun k q m h2 h3 => hR k q m (List.getElem?_eq_some_iff.1 h3).1 h2 h3⟩

theorem flat_okII {w : World} {s : Sl} {l : List (List Int)} (h : R w s l) : ∀ r ∈ l, ∀ x ∈ r, Flat.ok x := fun r hr x hx => by
  obtain ⟨i, hi, rfl⟩ := List.mem_iff_getElem.1 hr
  obtain ⟨_, _, _, _, ⟨s', _, h1⟩, _⟩ := h.2.2 i l[i] (by simp [hi])
  exact flat_ok h1 x hx

theorem szIntSS_ok {w : World} {a : Sl} {l : List (List Int)} (h : R w a l) (left : Int) (h0 : 0 ≤ left) (h1 : left ≤ 1048576) :
    Calls Tryz.prog F.l_szIntSS #[a.v, .int .i64 left] w (Ret [.at (.int .i64)] fun (x : Int) w' => (0 ≤ x → x ≤ left ∧ l.length ≤ left ∧ ∀ r ∈ l, r.length ≤ left) ∧ w = w') := by
  refine C_l_szIntSS ?_
  unfold V_l_szIntSS
  have := h.le
  rw [h.len, wrap_of (by omega) (by omega)]
  refine cond_dec (fun _ => ⟨by omega, rfl⟩) (fun hle => ?_)
  refine ⟨fun y x w' => w = w' ∧ 0 ≤ y ∧ y ≤ left ∧ ∃ i : Nat, x = i ∧ i ≤ l.length ∧ ∀ r ∈ l.take i, r.length ≤ left, fun _ x _ => l.length - x.toNat, ⟨rfl, by omega, by omega, 0, rfl, by omega, by simp⟩, ?_⟩
  rintro y x _ ⟨rfl, hy0, hy, i, rfl, hi, hr⟩
  intros
  refine cond_dec (fun hlt => ?_) (fun hge => ⟨fun _ => ⟨hy, by omega, ?_⟩, rfl⟩)
  · have hlt' : i < l.length := by omega
    refine h.ixL hlt' fun p s' hs' hc => LD_sl hc ?_
    refine call (szIntS_ok hs'.any y hy0 (by omega)) ?_
    rintro x _ ⟨hx, rfl⟩
    refine cond_dec (fun _ => ⟨by omega, rfl⟩) (fun hn => ?_)
    have hx' := hx (by omega)
    rw [wrap_of (by omega) (by omega)]
    refine ⟨⟨rfl, by omega, by omega, i + 1, by omega, hlt', fun r hr' => ?_⟩, by simp only []; omega⟩
    rw [List.take_succ_eq_append_getElem hlt'] at hr'
    rcases List.mem_append.1 hr' with h3 | h3
    · exact hr r h3
    · rw [List.mem_singleton.1 h3]; omega
  · have : i = l.length := by omega
    subst this
    simpa using hr

theorem eqIntSS_ok {w : World} {a b : Sl} {l m : List (List Int)} (ha : R w a l) (hb : R w b m) :
    Calls Tryz.prog F.l_eqIntSS #[a.v, b.v] w (Ret [.at .bool] fun (x : Bool) w' => x = decide (l = m) ∧ Ext w w') := by
  refine C_l_eqIntSS ?_
  unfold V_l_eqIntSS
  rw [ha.len, hb.len]
  refine cond_ne (fun hne => ⟨?_, Ext.refl _⟩) (fun he => ?_)
  · rw [decide_eq_false]; intro h; subst h; exact hne rfl
  · have hl : l.length = m.length := by omega
    refine ⟨IN l.length fun i w' => Ext w w' ∧ l.take i = m.take i, MN l.length, IN_zero ⟨Ext.refl _, by simp⟩, ?_⟩
    rintro x w1 ⟨i, rfl, hi, hE, ht⟩
    intros
    refine cond_dec (fun hlt => ?_) (fun hge => ⟨?_, hE⟩)
    · have h1 : i < l.length := by omega
      have h2 : i < m.length := by omega
      refine (ha.ext hE).ixL h1 fun p s1 hs1 hc => LD_sl hc ?_
      refine (hb.ext hE).ixL h2 fun p s2 hs2 hc => LD_sl hc ?_
      refine QCALL_bool _ (fun w' hw' => eqIntS_ok (hs1.any.ext hw') (hs2.any.ext hw')) ?_
      intro w2 hE2
      refine cond_not (fun hf => ⟨?_, hE.trans hE2⟩) (fun htr => ?_)
      · rw [decide_eq_false]; intro h; subst h; simp at hf
      · have heq : l[i] = m[i] := of_decide_eq_true htr
        exact IN_next ha.le h1 ⟨hE.trans hE2, by rw [List.take_succ_eq_append_getElem h1, List.take_succ_eq_append_getElem h2, ht, heq]⟩
    · have h3 : i = l.length := by omega
      subst h3
      rw [decide_eq_true]
      have h4 : m.take l.length = m := List.take_of_length_le (by omega)
      rw [h4, List.take_length] at ht
      exact ht

/-! ### Marks in matrices -/

/-- How many numbers lie in the first rows. -/
def pre (L : List (List Int)) (i : Nat) : Nat := ((L.take i).map List.length).sum
theorem pre_succ {L : List (List Int)} {i : Nat} (hi : i < L.length) : pre L (i + 1) = pre L i + L[i].length := by
  unfold pre
  rw [List.take_succ_eq_append_getElem hi, List.map_append, List.sum_append]
  simp
theorem pre_le {L : List (List Int)} (hL : ∀ r ∈ L, r.length ≤ 1048576) : ∀ i, i ≤ L.length → pre L i ≤ 1048576 * i
  | 0, _ => by simp [pre]
  | i + 1, hi => by
    have ih := pre_le hL i (by omega)
    rw [pre_succ (by omega)]
    have := hL _ (List.getElem_mem (show i < L.length by omega))
    omega

def marks2 (k : Int) (L : List (List Int)) : List (List Int) := (List.range L.length).map fun i => marks (k + pre L i) (L.getD i []).length
theorem marks2_len (k : Int) (L : List (List Int)) : (marks2 k L).length = L.length := by simp [marks2]
theorem marks2_get {k : Int} {L : List (List Int)} {i : Nat} (hi : i < L.length) : (marks2 k L)[i]'(by rw [marks2_len]; exact hi) = marks (k + pre L i) L[i].length := by
  simp [marks2, hi]

/-- A matrix of the call's own: its rows lie apart from each other. -/
structure OutM (base : Nat) (w : World) (s : Sl) (L : List (List Int)) : Prop where
  ex : ∃ ss : List Sl, RowsD w base T.t_int T.t_sl_int s L ss
  i64 : ∀ r ∈ L, ∀ x ∈ r, I64 x
  rows : L.length ≤ 1048576
  small : ∀ r ∈ L, r.length ≤ 1048576

theorem OutM.own2 {base : Nat} {w : World} {s : Sl} {L : List (List Int)} (h : OutM base w s L) : Own2 w base T.t_int T.t_sl_int s L := by
  obtain ⟨ss, h1, h2, h3, _⟩ := h.ex
  exact ⟨ss, h1, h2, h3⟩
theorem OutM.rep {base : Nat} {w : World} {s : Sl} {L : List (List Int)} (h : OutM base w s L) : R w s L := h.own2.rep h.i64
theorem OutM.keep {base : Nat} {w w' : World} {s : Sl} {L : List (List Int)} (h : OutM base w s L) (hk : ∀ k, base ≤ k → k < w.heap.size → w'.heap[k]? = w.heap[k]?) : OutM base w' s L := by
  obtain ⟨ss, h1, h2, h3, h4⟩ := h.ex
  exact ⟨⟨ss, h1.keep fun k hb => hk k (h1.blk k hb).1 (h1.blk k hb).2, h2, fun i r l hr hl => (h3 i r l hr hl).keep fun k hb => hk k ((h3 i r l hr hl).blk k hb).1 ((h3 i r l hr hl).blk k hb).2, h4⟩, h.i64, h.rows, h.small⟩
theorem OutM.ext {base : Nat} {w w' : World} {s : Sl} {L : List (List Int)} (h : OutM base w s L) (hE : Ext w w') : OutM base w' s L := h.keep fun _ _ hk => hE.same hk
theorem OutM.chgR {base lo hi : Nat} {w w' : World} {s : Sl} {L : List (List Int)} (h : OutM base w s L) (hC : Chg w w' (fun b => lo ≤ b ∧ b < hi)) (hh : hi ≤ base) : OutM base w' s L :=
  h.keep fun k hk hlt => hC.block k hlt fun hD => by have := hD.2; omega
theorem OutM.nil (base : Nat) (w : World) : OutM base w ⟨none, 0, 0⟩ [] := ⟨⟨[], OwnL.nil _ _ _, rfl, fun i r l h => by simp at h, fun i j r q h => by simp at h⟩, by simp, by simp, by simp⟩
theorem OutM.low {base b : Nat} {w : World} {s : Sl} {L : List (List Int)} (h : OutM base w s L) (hb : b ≤ base) : OutM b w s L := by
  obtain ⟨ss, h1, h2, h3, h4⟩ := h.ex
  exact ⟨⟨ss, h1.low hb, h2, fun i r l hr hl => (h3 i r l hr hl).low hb, h4⟩, h.i64, h.rows, h.small⟩

theorem rows_apart {w w' : World} {base base' : Nat} {r q : Sl} {l m : List Int} (h : OwnL w base T.t_int r l) (_ : OwnL w base' T.t_int q m) (hd : ∀ k, r.v.ownBlock = some k → q.v.ownBlock ≠ some k) (hs : Step w w' q.v.ownBlock) : OwnL w' base T.t_int r l :=
  h.keep fun k hk => hs.block k (h.blk k hk).2 fun he => hd k hk he.symm

/-- The blocks of a matrix's rows. -/
def RB (ss : List Sl) (b : Nat) : Prop := ∃ r ∈ ss, r.v.ownBlock = some b

theorem markIntSS_rows {base : Nat} {w : World} {s : Sl} {L : List (List Int)} {ss : List Sl} (hM : RowsD w base T.t_int T.t_sl_int s L ss) (hrows : L.length ≤ 1048576) (hsmall : ∀ r ∈ L, r.length ≤ 1048576) (k : Int) (h0 : 0 ≤ k) (h1 : k ≤ 1125899906842624000) :
    Calls Tryz.prog F.l_markIntSS #[s.v, .int .i64 k] w (Ret [.at (.int .i64)] fun (r : Int) w' => r = k + pre L L.length ∧ RowsD w' base T.t_int T.t_sl_int s (marks2 k L) ss ∧ Chg w w' (RB ss)) := by
  refine C_l_markIntSS ?_
  unfold V_l_markIntSS
  obtain ⟨hO, hlen, hR, hD⟩ := hM
  rw [hO.1]
  have hpl := fun i hi => pre_le hsmall i hi
  refine ⟨IN2 ss.length fun i r w' => r = k + pre L i ∧ OwnL w' base T.t_sl_int s ss ∧ (∀ (j : Nat) (q : Sl) (l : List Int), ss[j]? = some q → (if j < i then marks2 k L else L)[j]? = some l → OwnL w' base T.t_int q l) ∧ Chg w w' (RB ss), MN2 ss.length,
    IN2_zero ⟨by simp [pre], hO, by simpa using hR, Chg.refl _ _⟩, ?_⟩
  rintro _ _ w1 ⟨i, rfl, hi, rfl, hO1, hR1, hC1⟩
  intros
  refine cond_dec (fun hlt => ?_) (fun hge => ?_)
  · have hi' : i < ss.length := by omega
    have hiL : i < L.length := by omega
    refine (hO1.rep fun _ _ => trivial).ix (n := 1) rfl (by omega) (by omega) fun p cs hrep hc => ?_
    simp only [Int.toNat_natCast] at hrep
    have hcs : cs = [ss[i].v] := hrep
    subst hcs
    refine LD_sl (hc 0 _ rfl) ?_
    have hOi := hR1 i ss[i] L[i] (by simp [hi']) (by simp [hiL])
    have hp := hpl i (by omega)
    refine call (markIntS_ok hOi (k + pre L i) (by omega) (by omega) (hsmall _ (List.getElem_mem hiL))) ?_
    rintro r w2 ⟨rfl, hO2, hs2⟩
    refine IN2_next (by omega) hi' ⟨by rw [pre_succ hiL]; omega, hO1.keep fun b hb => hs2.block b (hO1.blk b hb).2 fun he => ?_, fun j q l hq hl => ?_, hC1.trans (.of_step hs2 fun b hb => ⟨ss[i], List.getElem_mem hi', hb⟩)⟩
    · obtain ⟨c1, e1⟩ := hO1.type hb
      obtain ⟨c2, e2⟩ := hOi.type he.symm
      rw [e1] at e2
      exact absurd (Obj.cells.inj (Option.some.inj e2)).2.1 (by decide)
    · by_cases hji : j = i
      · subst hji
        rw [if_pos (by omega), List.getElem?_eq_getElem (by rw [marks2_len]; exact hiL), marks2_get hiL] at hl
        rw [List.getElem?_eq_getElem hi'] at hq
        cases hq
        cases hl
        exact hO2
      · have hl' : (if j < i then marks2 k L else L)[j]? = some l := by
          by_cases hj : j < i
          · rw [if_pos (by omega)] at hl; rw [if_pos hj]; exact hl
          · rw [if_neg (by omega)] at hl; rw [if_neg hj]; exact hl
        exact rows_apart (hR1 j q l hq hl') hOi (hD j i q ss[i] hq (by simp [hi']) hji) hs2
  · have : i = ss.length := by omega
    subst this
    exact ⟨by rw [hlen], ⟨hO1, by rw [marks2_len]; exact hlen, fun j q l hq hl => hR1 j q l hq (by rw [if_pos (List.getElem?_eq_some_iff.1 hq).1]; exact hl), hD⟩, hC1⟩

theorem marks2_I64 {k : Int} {L : List (List Int)} (h0 : 0 ≤ k) (h1 : k ≤ 1125899906842624000) (hrows : L.length ≤ 1048576) (hsmall : ∀ r ∈ L, r.length ≤ 1048576) : ∀ r ∈ marks2 k L, ∀ x ∈ r, I64 x := fun r hr x hx => by
  obtain ⟨j, hj, rfl⟩ := List.mem_iff_getElem.1 hr
  have hjL : j < L.length := by rwa [marks2_len] at hj
  rw [marks2_get hjL] at hx
  have := pre_le hsmall j (by omega)
  have := hsmall _ (List.getElem_mem hjL)
  exact marks_I64 (by omega) (by omega) x hx

theorem markIntSS_out {base : Nat} {w : World} {s : Sl} {L : List (List Int)} (h : OutM base w s L) (k : Int) (h0 : 0 ≤ k) (h1 : k ≤ 1125899906842624000) :
    Calls Tryz.prog F.l_markIntSS #[s.v, .int .i64 k] w (Ret [.at (.int .i64)] fun (r : Int) w' => r = k + pre L L.length ∧ R w' s (marks2 k L) ∧ Chg w w' (fun b => base ≤ b)) := by
  obtain ⟨ss, hM⟩ := h.ex
  refine call (markIntSS_rows hM h.rows h.small k h0 h1) ?_
  rintro r w' ⟨hr, hM', hC⟩
  refine ⟨hr, hM'.rep (marks2_I64 h0 h1 h.rows h.small), hC.mono ?_⟩
  rintro b ⟨q, hq, hb⟩
  obtain ⟨i, hi, rfl⟩ := List.mem_iff_getElem.1 hq
  have hl := hM.len
  exact ((hM.row i ss[i] (L[i]'(by omega)) (by simp [hi]) (by simp)).blk b hb).1

/-! ### Two matrices that lie apart -/

/-- The blocks of a matrix. -/
def MB (s : Sl) (ss : List Sl) (b : Nat) : Prop := s.v.ownBlock = some b ∨ RB ss b

theorem _root_.Go.GX.RowsD.blk {w : World} {base : Nat} {s : Sl} {L : List (List Int)} {ss : List Sl} (h : RowsD w base T.t_int T.t_sl_int s L ss) {b : Nat} (hb : MB s ss b) : base ≤ b ∧ b < w.heap.size := by
  rcases hb with hb | ⟨r, hr, hb⟩
  · exact h.own.blk b hb
  · obtain ⟨i, hi, rfl⟩ := List.mem_iff_getElem.1 hr
    have hl := h.len
    exact (h.row i ss[i] (L[i]'(by omega)) (by simp [hi]) (by simp)).blk b hb

theorem _root_.Go.GX.RowsD.keepB {w w' : World} {base : Nat} {s : Sl} {L : List (List Int)} {ss : List Sl} (h : RowsD w base T.t_int T.t_sl_int s L ss) (hk : ∀ b, MB s ss b → w'.heap[b]? = w.heap[b]?) : RowsD w' base T.t_int T.t_sl_int s L ss :=
  ⟨h.own.keep fun b hb => hk b (.inl hb), h.len, fun i r l hr hl => (h.row i r l hr hl).keep fun b hb => hk b (.inr ⟨r, List.mem_of_getElem? hr, hb⟩), h.apart⟩

theorem _root_.Go.GX.RowsD.away {w w' : World} {base : Nat} {s : Sl} {L : List (List Int)} {ss : List Sl} (h : RowsD w base T.t_int T.t_sl_int s L ss) {D : Nat → Prop} (hC : Chg w w' D) (hd : ∀ b, MB s ss b → ¬ D b) : RowsD w' base T.t_int T.t_sl_int s L ss :=
  h.keepB fun b hb => hC.block b (h.blk hb).2 (hd b hb)

structure Out2M (base : Nat) (w : World) (s : Sl) (L : List (List Int)) (s' : Sl) (L' : List (List Int)) : Prop where
  ex : ∃ ss ss' : List Sl, RowsD w base T.t_int T.t_sl_int s L ss ∧ RowsD w base T.t_int T.t_sl_int s' L' ss' ∧ ∀ b, MB s ss b → ¬ MB s' ss' b
  i64 : ∀ r ∈ L, ∀ x ∈ r, I64 x
  rows : L.length ≤ 1048576
  small : ∀ r ∈ L, r.length ≤ 1048576
  i64' : ∀ r ∈ L', ∀ x ∈ r, I64 x
  rows' : L'.length ≤ 1048576
  small' : ∀ r ∈ L', r.length ≤ 1048576

theorem Out2M.keep {base : Nat} {w w' : World} {s s' : Sl} {L L' : List (List Int)} (h : Out2M base w s L s' L') (hk : ∀ k, base ≤ k → k < w.heap.size → w'.heap[k]? = w.heap[k]?) : Out2M base w' s L s' L' := by
  obtain ⟨ss, ss', h1, h2, h3⟩ := h.ex
  exact ⟨⟨ss, ss', h1.keepB fun b hb => hk b (h1.blk hb).1 (h1.blk hb).2, h2.keepB fun b hb => hk b (h2.blk hb).1 (h2.blk hb).2, h3⟩, h.i64, h.rows, h.small, h.i64', h.rows', h.small'⟩
theorem Out2M.ext {base : Nat} {w w' : World} {s s' : Sl} {L L' : List (List Int)} (h : Out2M base w s L s' L') (hE : Ext w w') : Out2M base w' s L s' L' := h.keep fun _ _ hk => hE.same hk
theorem Out2M.chgR {base lo hi : Nat} {w w' : World} {s s' : Sl} {L L' : List (List Int)} (h : Out2M base w s L s' L') (hC : Chg w w' (fun b => lo ≤ b ∧ b < hi)) (hh : hi ≤ base) : Out2M base w' s L s' L' :=
  h.keep fun k hk hlt => hC.block k hlt fun hD => by have := hD.2; omega
theorem Out2M.nil (base : Nat) (w : World) : Out2M base w ⟨none, 0, 0⟩ [] ⟨none, 0, 0⟩ [] :=
  ⟨⟨[], [], RowsD.nil _ _ _ _, RowsD.nil _ _ _ _, fun b hb => (by
    rcases hb with hb | ⟨r, hr, _⟩
    · cases hb
    · cases hr)⟩, by simp, by simp, by simp, by simp, by simp, by simp⟩
theorem Out2M.low {base b : Nat} {w : World} {s s' : Sl} {L L' : List (List Int)} (h : Out2M base w s L s' L') (hb : b ≤ base) : Out2M b w s L s' L' := by
  obtain ⟨ss, ss', h1, h2, h3⟩ := h.ex
  exact ⟨⟨ss, ss', ⟨h1.own.low hb, h1.len, fun i r l hr hl => (h1.row i r l hr hl).low hb, h1.apart⟩, ⟨h2.own.low hb, h2.len, fun i r l hr hl => (h2.row i r l hr hl).low hb, h2.apart⟩, h3⟩, h.i64, h.rows, h.small, h.i64', h.rows', h.small'⟩
theorem Out2M.rep {base : Nat} {w : World} {s s' : Sl} {L L' : List (List Int)} (h : Out2M base w s L s' L') : R w s L := by
  obtain ⟨ss, ss', h1, _, _⟩ := h.ex
  exact h1.rep h.i64
theorem heldIntSS_ok {w : World} {s : Sl} {L : List (List Int)} (k : Int) (h : R w s (marks2 k L)) (h0 : 0 ≤ k) (h1 : k ≤ 1125899906842624000) (hl : L.length ≤ 1048576) (hll : ∀ r ∈ L, r.length ≤ 1048576) :
    Calls Tryz.prog F.l_heldIntSS #[s.v, .int .i64 k] w (Ret [.at (.int .i64)] fun (r : Int) w' => r = k + pre L L.length ∧ w = w') := by
  refine C_l_heldIntSS ?_
  unfold V_l_heldIntSS
  rw [h.len, marks2_len]
  have hpl := fun i hi => pre_le hll i hi
  refine ⟨IN2 L.length fun i r w' => r = k + pre L i ∧ w = w', MN2 L.length, IN2_zero ⟨by simp [pre], rfl⟩, ?_⟩
  rintro _ _ w1 ⟨i, rfl, hi, rfl, rfl⟩
  intros
  refine cond_dec (fun hlt => ?_) (fun hge => ?_)
  · have hiL : i < L.length := by omega
    refine h.ixL (by rw [marks2_len]; exact hiL) fun p r hr hc => LD_sl hc ?_
    rw [marks2_get hiL] at hr
    have hp := hpl i (by omega)
    have hrl := hll _ (List.getElem_mem hiL)
    refine call (heldIntS_ok (k + pre L i) hr.any (by omega) (by omega) hrl) ?_
    rintro r _ ⟨rfl, rfl⟩
    refine cond_df (by omega) ?_
    exact IN2_next (by omega) hiL ⟨by rw [pre_succ hiL]; omega, rfl⟩
  · have : i = L.length := by omega
    subst this
    exact ⟨rfl, rfl⟩

theorem mintss_of {w : World} {base : Nat} {s : Sl} {L : List (List Int)} (h : Own2 w base T.t_int T.t_sl_int s L) (hl : L.length ≤ 1048576) (hll : ∀ r ∈ L, r.length ≤ 1048576) : MIntSS w s base w.heap.size := by
  obtain ⟨ss, h1, h2, h3⟩ := h
  refine ⟨ss, h1, by omega, fun r hr => ?_⟩
  obtain ⟨i, hi, rfl⟩ := List.mem_iff_getElem.1 hr
  have hiL : i < L.length := by omega
  have hO := h3 i ss[i] L[i] (by simp [hi]) (by simp [hiL])
  refine ⟨mint_of hO (hll _ (List.getElem_mem hiL)), fun b hb he => ?_⟩
  obtain ⟨c1, e1⟩ := hO.type (blkOf_own hO hb)
  obtain ⟨c2, e2⟩ := h1.type he
  rw [e1] at e2
  exact absurd (Obj.cells.inj (Option.some.inj e2)).2.1 (by decide)

theorem MIntSS.chg {w w' : World} {s : Sl} {lo hi : Nat} (h : MIntSS w s lo hi) (hS : Shp w w') {l2 h2 : Nat} (hC : Chg w w' (fun b => l2 ≤ b ∧ b < h2)) (hlo : h2 ≤ lo) : MIntSS w' s lo hi := by
  obtain ⟨ss, h1, h3, h4⟩ := h.ex
  exact ⟨ss, h1.chg hC fun b hb hD => by have := (h1.blk b hb).1; have := hD.2; omega, h3, fun r hr => ⟨(h4 r hr).1.shp hS, (h4 r hr).2⟩⟩
theorem MNet.chg {w w' : World} {x y z : Sl} {lo hi : Nat} (h : MNet w x y z lo hi) (hS : Shp w w') {l2 h2 : Nat} (hC : Chg w w' (fun b => l2 ≤ b ∧ b < h2)) (hlo : h2 ≤ lo) : MNet w' x y z lo hi := by
  obtain ⟨⟨ss, h1, h3, h4⟩, h5, h6⟩ := h
  exact ⟨⟨ss, h1.chg hC fun b hb hD => by have := (h1.blk b hb).1; have := hD.2; omega, h3, fun r hr => ⟨(h4 r hr).1.shp hS, (h4 r hr).2⟩⟩, h5.shp hS, h6.shp hS⟩

theorem MIntSS.ext {w w' : World} {s : Sl} {lo hi : Nat} (h : MIntSS w s lo hi) (hE : Ext w w') : MIntSS w' s lo hi := by
  obtain ⟨ss, h1, h3, h4⟩ := h.ex
  exact ⟨ss, h1.ext hE, h3, fun r hr => ⟨(h4 r hr).1.ext hE, (h4 r hr).2⟩⟩

theorem markIntSS_ok {w : World} {s : Sl} {lo hi : Nat} (h : MIntSS w s lo hi) (k : Int) (h0 : 0 ≤ k) (h1 : k ≤ 1125899906842624000) :
    Calls Tryz.prog F.l_markIntSS #[s.v, .int .i64 k] w (Ret [.at (.int .i64)] fun (r : Int) w' => 0 ≤ r ∧ r ≤ k + 1099511627776 ∧ Shp w w' ∧ Chg w w' (fun b => lo ≤ b ∧ b < hi)) := by
  obtain ⟨ss, hO, hl, hr⟩ := h.ex
  refine C_l_markIntSS ?_
  unfold V_l_markIntSS
  rw [hO.1]
  refine ⟨IN2 ss.length fun i r w' => 0 ≤ r ∧ r ≤ k + 1048576 * i ∧ Shp w w' ∧ Chg w w' (fun b => (lo ≤ b ∧ b < hi) ∧ s.v.ownBlock ≠ some b), MN2 ss.length, IN2_zero ⟨by omega, by omega, Shp.refl _, Chg.refl _ _⟩, ?_⟩
  rintro x _ w1 ⟨i, rfl, hi', hx0, hx1, hS, hC⟩
  intros
  refine cond_dec (fun hlt => ?_) (fun hge => ?_)
  · have hi2 : i < ss.length := by omega
    have hO1 : OwnL w1 lo T.t_sl_int s ss := hO.chg hC fun b hb hD => hD.2 hb
    refine (hO1.rep fun _ _ => trivial).ix (n := 1) rfl (by omega) (by omega) fun p cs hrep hc => ?_
    simp only [Int.toNat_natCast] at hrep
    have hcs : cs = [ss[i].v] := hrep
    subst hcs
    refine LD_sl (hc 0 _ rfl) ?_
    obtain ⟨hm, hb⟩ := hr _ (List.getElem_mem hi2)
    have hml := hm.len
    refine call (markIntS_wr (hm.wr.shp hS) x hx0 (by omega) hm.len) ?_
    rintro r w2 ⟨rfl, hS2, hC2⟩
    exact IN2_next (by omega) hi2 ⟨by omega, by omega, hS.trans hS2, hC.trans (hC2.mono fun b hb' => ⟨hm.blk b hb', hb b hb'⟩)⟩
  · have : i = ss.length := by omega
    subst this
    exact ⟨hx0, by omega, hS, hC.mono fun b hb => hb.1⟩

end Go.Proofs.YtndebacmnpghkaaGreat
end

section
/- Configurations: lists of labels in order, both sides. -/
namespace Go.Proofs.YtndebacmnpghkaaGreat
open Go.GX Go.RowKit
set_option maxRecDepth 100000

/-! ### Lists in the dictionary's order -/

def cmpL : List Int → List Int → Int
  | [], [] => 0
  | [], _ :: _ => -1
  | _ :: _, [] => 1
  | x :: a, y :: b => if x < y then -1 else if y < x then 1 else cmpL a b

theorem cmpL_zero : ∀ {a b : List Int}, cmpL a b = 0 ↔ a = b
  | [], [] => by simp [cmpL]
  | [], _ :: _ => by simp [cmpL]
  | _ :: _, [] => by simp [cmpL]
  | x :: a, y :: b => by
    rw [cmpL, List.cons.injEq, ← cmpL_zero (a := a) (b := b)]
    by_cases h1 : x < y
    · rw [if_pos h1]
      constructor
      · intro h; omega
      · intro h; omega
    · by_cases h2 : y < x
      · rw [if_neg h1, if_pos h2]
        constructor
        · intro h; omega
        · intro h; omega
      · rw [if_neg h1, if_neg h2]
        constructor
        · intro h; exact ⟨by omega, h⟩
        · intro h; exact h.2

theorem cmpL_trans : ∀ {a b c : List Int}, cmpL a b < 0 → cmpL b c < 0 → cmpL a c < 0
  | [], [], _, h, _ => by simp [cmpL] at h
  | [], _ :: _, [], _, h => by simp [cmpL] at h
  | [], _ :: _, _ :: _, _, _ => by simp [cmpL]
  | _ :: _, [], _, h, _ => by simp [cmpL] at h
  | _ :: _, _ :: _, [], _, h => by simp [cmpL] at h
  | x :: a, y :: b, z :: c, h, h' => by
    rw [cmpL] at h h' ⊢
    by_cases h1 : x < y
    · by_cases h2 : y < z
      · rw [if_pos (by omega)]; omega
      · rw [if_neg h2] at h'
        by_cases h3 : z < y
        · rw [if_pos h3] at h'; omega
        · rw [if_pos (by omega)]; omega
    · rw [if_neg h1] at h
      by_cases h4 : y < x
      · rw [if_pos h4] at h; omega
      · rw [if_neg h4] at h
        by_cases h2 : y < z
        · rw [if_pos (by omega)]; omega
        · rw [if_neg h2] at h'
          by_cases h3 : z < y
          · rw [if_pos h3] at h'; omega
          · rw [if_neg h3] at h'
            rw [if_neg (by omega), if_neg (by omega)]
            exact cmpL_trans h h'

/-- What is asked of a list of configurations. -/
structure ConfOk (L : List (List Int)) (size labels : Int) : Prop where
  row : ∀ i (h : i < L.length), (L[i].length : Int) = size ∧ L[i].Pairwise (· ≤ ·) ∧ AllIn L[i] 0 (labels - 1)
  rise : ∀ i (h : i + 1 < L.length), cmpL L[i] L[i + 1] < 0

theorem ConfOk.lt {L : List (List Int)} {size labels : Int} (h : ConfOk L size labels) : ∀ j i (_ : i < j) (hj : j < L.length), cmpL (L[i]'(by omega)) L[j] < 0 := by
  intro j
  induction j with
  | zero => intro i hi; omega
  | succ j ih =>
    intro i hi hj
    have h1 := h.rise j hj
    rcases Nat.lt_or_eq_of_le (Nat.le_of_lt_succ hi) with h2 | h2
    · exact cmpL_trans (ih i h2 (by omega)) h1
    · subst h2; exact h1

/-- Pairwise in order, told by neighbours. -/
theorem sorted_next : ∀ {l : List Int}, (∀ k (h : k + 1 < l.length), l[k] ≤ l[k + 1]) ↔ l.Pairwise (· ≤ ·)
  | [] => by simp
  | [x] => by simp
  | x :: y :: l => by
    have ih := sorted_next (l := y :: l)
    rw [List.pairwise_cons, ← ih]
    constructor
    · intro h
      have ht : ∀ k (h : k + 1 < (y :: l).length), (y :: l)[k] ≤ (y :: l)[k + 1] := fun k hk => h (k + 1) (by simp at hk ⊢; omega)
      refine ⟨fun z hz => ?_, ht⟩
      have hxy : x ≤ y := h 0 (by simp)
      have hp := List.pairwise_cons.1 (ih.1 ht)
      rcases List.mem_cons.1 hz with rfl | hz
      · exact hxy
      · exact Int.le_trans hxy (hp.1 z hz)
    · rintro ⟨h1, h2⟩ k hk
      cases k with
      | zero => exact h1 y (by simp)
      | succ k => exact h2 k (by simp at hk ⊢; omega)

/-! ### Comparing -/

theorem isNaN_ok (x : Int) (w : World) : Calls Tryz.prog F.cmp_isNaN_int #[.int .i64 x] w (Ret [.at .bool] fun (b : Bool) w' => b = false ∧ w = w') := by
  refine C_cmp_isNaN_int ?_
  unfold V_cmp_isNaN_int
  exact ⟨by simp, rfl⟩

theorem cmpLess_ok (x y : Int) (w : World) : Calls Tryz.prog F.cmp_Less_int #[.int .i64 x, .int .i64 y] w (Ret [.at .bool] fun (b : Bool) w' => b = decide (x < y) ∧ w = w') := by
  refine C_cmp_Less_int ?_
  unfold V_cmp_Less_int
  refine call (isNaN_ok _ _) ?_
  rintro _ _ ⟨rfl, rfl⟩
  exact cond_b (fun h => by cases h) (fun _ => ⟨rfl, rfl⟩)

theorem cmpCompare_ok (x y : Int) (w : World) : Calls Tryz.prog F.cmp_Compare_int #[.int .i64 x, .int .i64 y] w (Ret [.at (.int .i64)] fun (r : Int) w' => r = (if x < y then -1 else if y < x then 1 else 0) ∧ w = w') := by
  refine C_cmp_Compare_int ?_
  unfold V_cmp_Compare_int
  refine call (isNaN_ok _ _) ?_
  rintro _ _ ⟨rfl, rfl⟩
  refine call (isNaN_ok _ _) ?_
  rintro _ _ ⟨rfl, rfl⟩
  refine cond_b (fun h => by cases h) (fun _ => cond_b (fun h => by cases h) (fun _ => ?_))
  refine cond_dec (fun h => ⟨by rw [if_pos h], rfl⟩) (fun h => cond_dec (fun h2 => ⟨by rw [if_neg h, if_pos h2], rfl⟩) (fun h2 => ⟨by rw [if_neg h, if_neg h2], rfl⟩))

theorem compare_ok {w : World} {s t : Sl} {a b : List Int} (ha : R w s a) (hb : R w t b) :
    Calls Tryz.prog F.slices_Compare_sl_int_int #[s.v, t.v] w (Ret [.at (.int .i64)] fun (r : Int) w' => r = cmpL a b ∧ w = w') := by
  refine C_slices_Compare_sl_int_int ?_
  unfold V_slices_Compare_sl_int_int
  rw [ha.len, hb.len]
  refine ⟨IN a.length fun i w' => w = w' ∧ i ≤ b.length ∧ cmpL a b = cmpL (a.drop i) (b.drop i), MN a.length, IN_zero ⟨rfl, by omega, by simp⟩, ?_⟩
  rintro _ _ ⟨i, rfl, hi, rfl, hib, he⟩
  intros
  refine cond_dec (fun hlt => ?_) (fun hge => ?_)
  · have hi' : i < a.length := by omega
    have hda : a.drop i = a[i] :: a.drop (i + 1) := List.drop_eq_getElem_cons hi'
    refine ha.ixI hi' fun q _ hc => LD_int hc ?_
    refine cond_dec (fun hge => ⟨?_, rfl⟩) (fun hlt2 => ?_)
    · have hdb0 : b.drop i = [] := List.drop_of_length_le (by omega)
      rw [he, hda, hdb0]; rfl
    have hi2 : i < b.length := by omega
    have hdb : b.drop i = b[i] :: b.drop (i + 1) := List.drop_eq_getElem_cons hi2
    refine hb.ixI hi2 fun q _ hc => LD_int hc ?_
    refine call (cmpCompare_ok _ _ _) ?_
    rintro _ _ ⟨rfl, rfl⟩
    rw [hda, hdb, cmpL] at he
    refine cond_ne (fun hne => ⟨?_, rfl⟩) (fun heq => ?_)
    · rw [he]
      by_cases h1 : a[i] < b[i]
      · rw [if_pos h1, if_pos h1]
      · by_cases h2 : b[i] < a[i]
        · rw [if_neg h1, if_pos h2, if_neg h1, if_pos h2]
        · rw [if_neg h1, if_neg h2] at hne; exact absurd rfl hne
    · have h1 : ¬ a[i] < b[i] := fun h => by
        have heq' : (if a[i] < b[i] then (-1 : Int) else if b[i] < a[i] then 1 else 0) = 0 := heq
        rw [if_pos h] at heq'; omega
      have h2 : ¬ b[i] < a[i] := fun h => by
        have heq' : (if a[i] < b[i] then (-1 : Int) else if b[i] < a[i] then 1 else 0) = 0 := heq
        rw [if_neg h1, if_pos h] at heq'; omega
      rw [if_neg h1, if_neg h2] at he
      exact IN_next ha.le hi' ⟨rfl, by omega, he⟩
  · have : i = a.length := by omega
    subst this
    rw [List.drop_length] at he
    refine cond_dec (fun hlt => ⟨?_, rfl⟩) (fun hge2 => ⟨?_, rfl⟩)
    · have hi2 : a.length < b.length := by omega
      rw [he, List.drop_eq_getElem_cons hi2]; rfl
    · rw [he, List.drop_of_length_le (by omega)]; rfl

theorem isSorted_ok {w : World} {s : Sl} {l : List Int} (h : R w s l) :
    Calls Tryz.prog F.slices_IsSorted_sl_int_int #[s.v] w (Ret [.at .bool] fun (b : Bool) w' => (b = true ↔ l.Pairwise (· ≤ ·)) ∧ Ext w w') := by
  refine C_slices_IsSorted_sl_int_int ?_
  unfold V_slices_IsSorted_sl_int_int
  have hle := h.le
  rw [h.len, wrap_of (by omega) (by omega)]
  rw [← sorted_next]
  refine ⟨fun (i : Int) w' => Ext w w' ∧ -1 ≤ i ∧ i ≤ (l.length : Int) - 1 ∧ ∀ k (hk : k + 1 < l.length), i ≤ k → l[k] ≤ l[k + 1], fun i _ => (i + 1).toNat, ⟨Ext.refl _, by omega, by omega, fun k hk hi => by omega⟩, ?_⟩
  rintro i w1 ⟨hE, hi0, hi1, hall⟩
  intros
  refine cond_dec (fun hpos => ?_) (fun hnp => ⟨by simp only [true_iff]; exact fun k hk => hall k hk (by omega), hE⟩)
  obtain ⟨m, rfl⟩ : ∃ m : Nat, i = (m : Int) + 1 := ⟨(i - 1).toNat, by omega⟩
  have hm : m + 1 < l.length := by omega
  have hcast : (m : Int) + 1 = ((m + 1 : Nat) : Int) := by omega
  rw [show (m : Int) + 1 - 1 = (m : Int) by omega, wrap_of (n := (m : Int)) (by omega) (by omega), hcast]
  refine (h.ext hE).ixI hm fun q _ hc => LD_int hc ?_
  refine (h.ext hE).ixI (i := m) (by omega) fun q _ hc => LD_int hc ?_
  refine QCALL_bool (decide (l[m + 1] < l[m])) (fun w' _ => call (cmpLess_ok _ _ _) fun _ _ ⟨h1, h2⟩ => ⟨h1, h2 ▸ Ext.refl _⟩) ?_
  intro w2 hE2
  refine cond_dec (fun hlt => ⟨?_, hE.trans hE2⟩) (fun hge => ?_)
  · simp only [Bool.false_eq_true, false_iff]
    intro hh
    have := hh m hm
    omega
  · refine ⟨⟨hE.trans hE2, by omega, by omega, fun k hk hmk => ?_⟩, by simp only; omega⟩
    by_cases he : k = m
    · subst he; omega
    · exact hall k hk (by omega)

theorem configurationsOk_ok {w : World} {s : Sl} {L : List (List Int)} (h : R w s L) {size labels : Int} (hb : 1 ≤ labels ∧ labels ≤ 8) :
    Calls Tryz.prog F.i_configurationsOk #[s.v, .int .i64 size, .int .i64 labels] w (Ret [.at .bool] fun (b : Bool) w' => (b = true ↔ ConfOk L size labels) ∧ Ext w w') := by
  refine C_i_configurationsOk ?_
  unfold V_i_configurationsOk
  have hle := h.le
  rw [h.len, wrap_of (n := labels - 1) (by omega) (by omega)]
  refine ⟨IN L.length fun i w' => Ext w w' ∧ (∀ u < i, ∀ (hu : u < L.length), (L[u].length : Int) = size ∧ L[u].Pairwise (· ≤ ·) ∧ AllIn L[u] 0 (labels - 1)) ∧ ∀ u, u + 1 < i → ∀ (hu : u + 1 < L.length), cmpL L[u] L[u + 1] < 0, MN L.length, IN_zero ⟨Ext.refl _, fun u hu => absurd hu (by omega), fun u hu => absurd hu (by omega)⟩, ?_⟩
  rintro _ w1 ⟨i, rfl, hi, hE, h1, h2⟩
  intros
  refine cond_dec (fun hlt => ?_) (fun hge => ?_)
  rotate_left
  · have : i = L.length := by omega
    subst this
    exact ⟨by simp only [true_iff]; exact ⟨fun u hu => h1 u hu hu, fun u hu => h2 u hu hu⟩, hE⟩
  have hi' : i < L.length := by omega
  refine (h.ext hE).ixL hi' fun q s1 hR1 hc => LD_sl hc ?_
  rw [hR1.len]
  refine cond_ne (fun hne => ⟨?_, hE⟩) (fun heq => ?_)
  · simp only [Bool.false_eq_true, false_iff]
    exact fun hC => hne (hC.row i hi').1
  refine call (isSorted_ok hR1.any) ?_
  rintro x w2 ⟨hx, hE2⟩
  refine cond_not (fun hf => ⟨?_, hE.trans hE2⟩) (fun ht => ?_)
  · simp only [Bool.false_eq_true, false_iff]
    intro hC
    rw [hx.2 (hC.row i hi').2.1] at hf; cases hf
  refine call (allWithin_ok (hR1.any.ext hE2) 0 (labels - 1)) ?_
  rintro y w3 ⟨hy, hE3⟩
  have hE13 := hE2.trans hE3
  have hEt := hE.trans hE13
  refine cond_not (fun hf => ⟨?_, hEt⟩) (fun ht2 => ?_)
  · simp only [Bool.false_eq_true, false_iff]
    intro hC
    rw [hy.2 (hC.row i hi').2.2] at hf; cases hf
  have hrow : (L[i].length : Int) = size ∧ L[i].Pairwise (· ≤ ·) ∧ AllIn L[i] 0 (labels - 1) := ⟨heq, hx.1 ht, hy.1 ht2⟩
  refine cond_dec (fun hpos => ?_) (fun hnp => ?_)
  · obtain ⟨j, rfl⟩ : ∃ j, i = j + 1 := ⟨i - 1, by omega⟩
    rw [show ((j + 1 : Nat) : Int) - 1 = (j : Int) by omega, wrap_of (n := (j : Int)) (by omega) (by omega)]
    refine (h.ext hEt).ixL (i := j) (by omega) fun q s2 hR2 hc => LD_sl hc ?_
    refine call (compare_ok hR2.any (hR1.any.ext hE13)) ?_
    rintro _ _ ⟨rfl, rfl⟩
    refine cond_dec (fun hge => ⟨?_, hEt⟩) (fun hlt2 => ?_)
    · simp only [Bool.false_eq_true, false_iff]
      intro hC
      have := hC.rise j hi'
      omega
    · refine IN_next hle hi' ⟨hEt, all_succ h1 fun _ => hrow, fun u hu hu2 => ?_⟩
      by_cases he : u = j
      · subst he; omega
      · exact h2 u (by omega) hu2
  · refine IN_next hle hi' ⟨hEt, all_succ h1 fun _ => hrow, fun u hu => absurd hu (by omega)⟩

/-! ### The reference's side -/

theorem l1Sign_ok (n : Int) (w : World) : Calls Tryz.prog F.s_l1Sign #[.int .i64 n] w (Ret [.at (.int .i64)] fun (r : Int) w' => r = (if n < 0 then -1 else if 0 < n then 1 else 0) ∧ w = w') := by
  refine C_s_l1Sign ?_
  unfold V_s_l1Sign
  refine cond_dec (fun h => ⟨by rw [if_neg (by omega), if_pos h], rfl⟩) (fun h => cond_dec (fun h2 => ⟨by rw [if_pos h2], rfl⟩) (fun h2 => ⟨by rw [if_neg h2, if_neg h], rfl⟩))

theorem prOrder_ok {w : World} {s t : Sl} {a b : List Int} (ha : R w s a) (hb : R w t b) (hl : a.length = b.length) {c : Int} (hc8 : c ≤ 1000) (hA : AllIn a 0 c) (hB : AllIn b 0 c) :
    Calls Tryz.prog F.s_prOrder #[s.v, t.v] w (Ret [.at (.int .i64)] fun (r : Int) w' => r = cmpL a b ∧ w = w') := by
  refine C_s_prOrder ?_
  unfold V_s_prOrder
  rw [ha.len]
  refine ⟨IN a.length fun i w' => w = w' ∧ cmpL a b = cmpL (a.drop i) (b.drop i), MN a.length, IN_zero ⟨rfl, by simp⟩, ?_⟩
  rintro _ _ ⟨i, rfl, hi, rfl, he⟩
  intros
  refine cond_dec (fun hlt => ?_) (fun hge => ?_)
  · have hi' : i < a.length := by omega
    have hi2 : i < b.length := by omega
    have hda : a.drop i = a[i] :: a.drop (i + 1) := List.drop_eq_getElem_cons hi'
    have hdb : b.drop i = b[i] :: b.drop (i + 1) := List.drop_eq_getElem_cons hi2
    have h1 := hA _ (List.getElem_mem hi')
    have h2 := hB _ (List.getElem_mem hi2)
    rw [hda, hdb, cmpL] at he
    refine ha.ixI hi' fun q _ hc => LD_int hc ?_
    refine hb.ixI hi2 fun q _ hc => LD_int hc ?_
    refine cond_ne (fun hne => ?_) (fun heq => ?_)
    · refine hb.ixI hi2 fun q _ hc => LD_int hc ?_
      rw [wrap_of (by omega) (by omega)]
      refine call (l1Sign_ok _ _) ?_
      rintro _ _ ⟨rfl, rfl⟩
      refine ⟨?_, rfl⟩
      rw [he]
      by_cases h3 : a[i] < b[i]
      · rw [if_pos h3, if_pos (by omega)]
      · have hne' : a[i] ≠ b[i] := hne
        rw [if_neg h3, if_neg (by omega), if_pos (by omega), if_pos (by omega)]
    · have heq' : a[i] = b[i] := heq
      rw [if_neg (by omega), if_neg (by omega)] at he
      exact IN_next ha.le hi' ⟨rfl, he⟩
  · have : i = a.length := by omega
    subst this
    rw [List.drop_length, List.drop_of_length_le (by omega)] at he
    exact ⟨he.symm, rfl⟩

theorem prLists_k4 {w0 w : World} {s1 : Sl} {l : List Int} (hR : R w s1 l) {size : Int} (hs : (l.length : Int) = size) {I : Int → World → Prop} {m : Int → World → Nat} {x : Int} {w1 : World} {Q : Bool → World → Prop} (hE : Ext w0 w)
    (hno : ¬ l.Pairwise (· ≤ ·) → ∀ w', Ext w0 w' → Q false w')
    (hyes : l.Pairwise (· ≤ ·) → ∀ w', Ext w0 w' → I (IntKind.i64.wrap (x + 1)) w' ∧ m (IntKind.i64.wrap (x + 1)) w' < m x w1) :
    V_s_prLists_k4 I m x w1 size Q s1 w := by
  unfold V_s_prLists_k4
  have hle := hR.le
  rw [← sorted_next] at hno hyes
  refine ⟨fun (k : Int) w' => ∃ j : Nat, k = (j : Int) + 1 ∧ (j = 0 ∨ j + 1 ≤ l.length) ∧ Ext w w' ∧ ∀ u < j, ∀ (hu : u + 1 < l.length), l[u] ≤ l[u + 1], fun k _ => (size - k).toNat, ⟨0, rfl, .inl rfl, Ext.refl _, fun u hu => absurd hu (by omega)⟩, ?_⟩
  rintro _ w5 ⟨j, rfl, hj, hE5, hall⟩
  intros
  refine cond_dec (fun hlt => ?_) (fun hge => hyes (fun u hu => hall u (by omega) hu) _ (hE.trans hE5))
  have hj' : j + 1 < l.length := by omega
  rw [show (j : Int) + 1 - 1 = (j : Int) by omega, wrap_of (n := (j : Int)) (by omega) (by omega), show (j : Int) + 1 = ((j + 1 : Nat) : Int) by omega]
  refine (hR.ext hE5).ixI (i := j) (by omega) fun q _ hc => LD_int hc ?_
  refine (hR.ext hE5).ixI hj' fun q _ hc => LD_int hc ?_
  intro w6 hE6
  refine cond_dec (fun hgt => hno (fun hh => ?_) _ (hE.trans (hE5.trans hE6))) (fun hng => ?_)
  · have := hh j hj'
    omega
  · rw [wrap_of (n := ((j + 1 : Nat) : Int) + 1) (by omega) (by omega)]
    exact ⟨⟨j + 1, by omega, .inr (by omega), hE5.trans hE6, all_succ hall fun _ => by omega⟩, by simp only; omega⟩

theorem prLists_ok {w : World} {s : Sl} {L : List (List Int)} (h : R w s L) {size labels : Int} (hb : 1 ≤ labels ∧ labels ≤ 8) :
    Calls Tryz.prog F.s_prLists #[s.v, .int .i64 size, .int .i64 labels] w (Ret [.at .bool] fun (b : Bool) w' => (b = true ↔ ConfOk L size labels) ∧ Ext w w') := by
  refine C_s_prLists ?_
  unfold V_s_prLists
  have hle := h.le
  rw [h.len, wrap_of (n := labels - 1) (by omega) (by omega)]
  refine ⟨IN L.length fun i w' => Ext w w' ∧ (∀ u < i, ∀ (hu : u < L.length), (L[u].length : Int) = size ∧ L[u].Pairwise (· ≤ ·) ∧ AllIn L[u] 0 (labels - 1)) ∧ ∀ u, u + 1 < i → ∀ (hu : u + 1 < L.length), cmpL L[u] L[u + 1] < 0, MN L.length, IN_zero ⟨Ext.refl _, fun u hu => absurd hu (by omega), fun u hu => absurd hu (by omega)⟩, ?_⟩
  rintro _ w1 ⟨i, rfl, hi, hE, h1, h2⟩
  intros
  refine cond_dec (fun hlt => ?_) (fun hge => ?_)
  rotate_left
  · have : i = L.length := by omega
    subst this
    exact ⟨by simp only [true_iff]; exact ⟨fun u hu => h1 u hu hu, fun u hu => h2 u hu hu⟩, hE⟩
  have hi' : i < L.length := by omega
  refine (h.ext hE).ixL hi' fun q s1 hR1 hc => LD_sl hc ?_
  rw [hR1.len]
  refine cond_ne (fun hne => ⟨?_, hE⟩) (fun heq => ?_)
  · simp only [Bool.false_eq_true, false_iff]
    exact fun hC => hne (hC.row i hi').1
  refine call (l1All_ok hR1.any 0 (labels - 1)) ?_
  rintro y _ ⟨hy, rfl⟩
  refine cond_not (fun hf => ⟨?_, hE⟩) (fun ht2 => ?_)
  · simp only [Bool.false_eq_true, false_iff]
    intro hC
    rw [hy.2 (hC.row i hi').2.2] at hf; cases hf
  have hall := hy.1 ht2
  have hno : ¬ L[i].Pairwise (· ≤ ·) → ∀ w', Ext w w' → (false = true ↔ ConfOk L size labels) ∧ Ext w w' := fun hn w' hE' => ⟨by simp only [Bool.false_eq_true, false_iff]; exact fun hC => hn (hC.row i hi').2.1, hE'⟩
  refine cond_dec (fun hpos => ?_) (fun hnp => ?_)
  · obtain ⟨j, rfl⟩ : ∃ j, i = j + 1 := ⟨i - 1, by omega⟩
    rw [show ((j + 1 : Nat) : Int) - 1 = (j : Int) by omega, wrap_of (n := (j : Int)) (by omega) (by omega)]
    refine (h.ext hE).ixL (i := j) (by omega) fun q s2 hR2 hc => LD_sl hc ?_
    have hrj := h1 j (by omega) (by omega)
    refine call (prOrder_ok hR2.any hR1.any (by omega) (c := labels - 1) (by omega) hrj.2.2 hall) ?_
    rintro _ _ ⟨rfl, rfl⟩
    refine cond_dec (fun hge => ⟨?_, hE⟩) (fun hlt2 => ?_)
    · simp only [Bool.false_eq_true, false_iff]
      intro hC
      have := hC.rise j hi'
      omega
    · refine prLists_k4 hR1.any heq hE hno fun hs w' hE' => IN_next hle hi' ⟨hE', all_succ h1 fun _ => ⟨heq, hs, hall⟩, fun u hu hu2 => ?_⟩
      by_cases he : u = j
      · subst he; omega
      · exact h2 u (by omega) hu2
  · refine prLists_k4 hR1.any heq hE hno fun hs w' hE' => IN_next hle hi' ⟨hE', all_succ h1 fun _ => ⟨heq, hs, hall⟩, fun u hu => absurd hu (by omega)⟩

end Go.Proofs.YtndebacmnpghkaaGreat
end

section
/- slices.DeleteFunc at []int. -/
namespace Go.Proofs.YtndebacmnpghkaaGreat
open Go.GX Go.RowKit
set_option maxRecDepth 100000

end Go.Proofs.YtndebacmnpghkaaGreat
end

section
/- slices.Compact at []int; the number of different elements of a list. -/
namespace Go.Proofs.YtndebacmnpghkaaGreat
open Go.GX Go.RowKit
set_option maxRecDepth 100000

/-- What slices.Compact keeps of the first b elements. -/
def compTo (l : List Int) : Nat → List Int
  | 0 => []
  | b + 1 => compTo l b ++ (if b = 0 ∨ l.getD b 0 ≠ l.getD (b - 1) 0 then [l.getD b 0] else [])

theorem mem_take_succ {l : List Int} {b : Nat} (hb : b < l.length) {x : Int} : x ∈ l.take (b + 1) ↔ x ∈ l.take b ∨ x = l.getD b 0 := by
  rw [List.take_succ_eq_append_getElem hb, List.mem_append, List.mem_singleton, List.getD_eq_getElem?_getD, List.getElem?_eq_getElem hb]; rfl

theorem compTo_mem {l : List Int} : ∀ {b : Nat}, b ≤ l.length → ∀ x, x ∈ compTo l b ↔ x ∈ l.take b
  | 0, _, x => by simp [compTo]
  | b + 1, hb, x => by
    rw [mem_take_succ (by omega), compTo, List.mem_append, compTo_mem (by omega)]
    split
    · simp
    · rename_i h
      simp only [not_or, Decidable.not_not] at h
      constructor
      · rintro (h1 | h1)
        · exact .inl h1
        · simp at h1
      · rintro (h1 | rfl)
        · exact .inl h1
        · left
          rw [h.2, List.getD_eq_getElem?_getD, List.getElem?_eq_getElem (by omega)]
          exact List.mem_take_iff_getElem.2 ⟨b - 1, by omega, rfl⟩

theorem compTo_sorted {l : List Int} (hs : l.Pairwise (· ≤ ·)) : ∀ {b : Nat}, b ≤ l.length → (compTo l b).Pairwise (· < ·)
  | 0, _ => by simp [compTo]
  | b + 1, hb => by
    rw [compTo]
    split
    · rename_i h
      refine List.pairwise_append.2 ⟨compTo_sorted hs (by omega), by simp, ?_⟩
      intro x hx y hy
      simp at hy
      subst hy
      obtain ⟨j, hj, rfl⟩ := List.mem_take_iff_getElem.1 ((compTo_mem (by omega) _).1 hx)
      have hb' : b < l.length := by omega
      have hj' : j < b := by omega
      rcases h with h | h
      · omega
      · rw [List.getD_eq_getElem?_getD, List.getElem?_eq_getElem hb', List.getD_eq_getElem?_getD, List.getElem?_eq_getElem (by omega)] at h
        simp only [Option.getD_some] at h
        rw [List.getElem?_eq_getElem hb', Option.getD_some]
        have h1 : l[b - 1] ≤ l[b] := List.pairwise_iff_getElem.1 hs _ _ _ _ (by omega)
        have h2 : l[j] ≤ l[b - 1] := by
          by_cases e : j = b - 1
          · subst e; exact Int.le_refl _
          · exact List.pairwise_iff_getElem.1 hs _ _ _ _ (by omega)
        omega
    · simpa using compTo_sorted hs (b := b) (by omega)

theorem slr_sub {α : Type} [RepP α] {D : Nat → Prop} {w : World} {s d : Sl} {l : List α} (h : SlR D w s l) {i : Nat} (hi : i ≤ l.length) (hd : d.len = s.len - i) (hc : d.cap = s.cap - i) (ha : i < s.len → d.a = s.a.map (·.add (i * Rep.sz α))) : SlR D w d (l.drop i) := by
  have h1 := h.1
  have h2 := h.2.1
  refine ⟨by simp; omega, by omega, fun j x hx => ?_⟩
  rw [List.getElem?_drop] at hx
  have hlt := (List.getElem?_eq_some_iff.1 hx).1
  obtain ⟨a, cs, e1, e2, e3, e4⟩ := h.2.2 (i + j) x hx
  refine ⟨a.add (i * Rep.sz α), cs, by rw [ha (by omega), e1]; rfl, by rw [add_block]; exact e2, e3, fun t v ht => ?_⟩
  rw [add_add, show i * Rep.sz α + (j * Rep.sz α + t) = (i + j) * Rep.sz α + t by rw [Nat.add_mul]; omega]
  exact e4 t v ht

theorem getD_eq {l : List Int} {i : Nat} (hi : i < l.length) : l.getD i 0 = l[i] := by
  rw [List.getD_eq_getElem?_getD, List.getElem?_eq_getElem hi]; rfl

theorem compact_ok {w : World} {base : Nat} {s : Sl} {l : List Int} (h : OwnL w base T.t_int s l) (hok : ∀ x ∈ l, I64 x) (hl : l.length ≤ 1048576) :
    Calls Tryz.prog F.slices_Compact_sl_int_int #[s.v] w (Ret [.at .sl] fun (r : Sl) w' => Chg w w' (oB s) ∧ OwnL w' base T.t_int r (compTo l l.length) ∧ r.a = s.a) := by
  refine C_slices_Compact_sl_int_int ?_
  unfold V_slices_Compact_sl_int_int
  have hsl := h.1
  have hr := h.rep hok
  have hall : ∀ b, 1 ≤ b → b ≤ l.length → (∀ j, 1 ≤ j → j < b → l.getD j 0 ≠ l.getD (j - 1) 0) → compTo l b = l.take b := by
    intro b
    induction b with
    | zero => intro h; omega
    | succ b ih =>
      intro _ hb hne
      rw [List.take_succ_eq_append_getElem (by omega), compTo, getD_eq (by omega)]
      by_cases h0 : b = 0
      · subst h0; simp [compTo]
      · rw [ih (by omega) (by omega) (fun j h1 h2 => hne j h1 (by omega)), if_pos (.inr (by have := hne b (by omega) (by omega); rwa [getD_eq (by omega)] at this))]
  rw [hsl]
  refine cond_dec (fun hlt => ?_) (fun hge => ?_)
  · refine ⟨Chg.refl _ _, ?_, rfl⟩
    have : compTo l l.length = l := by
      by_cases h0 : l.length = 0
      · rw [List.length_eq_zero_iff.1 h0]; rfl
      · rw [hall l.length (by omega) (Nat.le_refl _) (fun j h1 h2 => by omega), List.take_length]
    rw [this]; exact h
  · refine ⟨fun i w' => ∃ k : Nat, i = k ∧ 1 ≤ k ∧ k ≤ l.length ∧ Ext w w' ∧ ∀ j, 1 ≤ j → j < k → l.getD j 0 ≠ l.getD (j - 1) 0, fun i _ => l.length - i.toNat, ⟨1, rfl, by omega, by omega, Ext.refl _, fun j h1 h2 => by omega⟩, ?_⟩
    rintro _ w1 ⟨k, rfl, hk1, hkl, hE1, hne⟩
    intros
    refine cond_dec (fun hlt => ?_) (fun hge2 => ?_)
    · have hk : k < l.length := by omega
      refine (hr.ext hE1).ixI (i := k) hk fun q _ hc => LD_int hc ?_
      rw [wrap_of (by omega) (by omega)]
      have e1 : ((k : Int) - 1) = ((k - 1 : Nat) : Int) := by omega
      rw [e1]
      refine (hr.ext hE1).ixI (i := k - 1) (by omega) fun q _ hc => LD_int hc ?_
      intro w2 hE2
      refine cond_b (fun heq => ?_) (fun hneq => ?_)
      · have heq' : l[k] = l[k - 1] := by simpa using heq
        refine SLC_from' hr.2.1.1 (by omega) fun d hdl hdc hda => ?_
        have hck : compTo l (k + 1) = l.take k := by
          rw [compTo, hall k hk1 (by omega) hne, if_neg (by rw [getD_eq hk, getD_eq (by omega)]; simp only [not_or, Decidable.not_not]; exact ⟨by omega, heq'⟩), List.append_nil]
        refine ⟨fun i j w' => ∃ a b : Nat, i = a ∧ j = b ∧ 1 ≤ b ∧ k + b ≤ l.length ∧ a < k + b ∧ k ≤ a ∧ Chg w w' (oB s) ∧ ∃ X : List Int, OwnL w' base T.t_int s X ∧ X.length = l.length ∧ X.take a = compTo l (k + b) ∧ (compTo l (k + b)).length = a ∧ X.drop (k + b - 1) = l.drop (k + b - 1) ∧ ∀ x ∈ X, I64 x, fun _ j _ => l.length - j.toNat,
          ⟨k, 1, rfl, rfl, by omega, by omega, by omega, by omega, .of_ext (hE1.trans hE2), l, h.ext (hE1.trans hE2), rfl, hck.symm, by rw [hck]; simp; omega, rfl, hok⟩, ?_⟩
        rintro _ _ w3 ⟨a, b, rfl, rfl, hb1, hkb, hab, hka, hC, X, hO, hXl, hXa, hal, hXd, hXo⟩
        intros
        rw [hdl, hsl]
        have hXR := slr_sub (hO.rep hXo) (i := k) (by omega) (by rw [hdl]) hdc hda
        refine cond_dec (fun hlt2 => ?_) (fun hge3 => ?_)
        · have hb : k + b < l.length := by omega
          have hX1 : X[k + b]'(by omega) = l[k + b] := by
            have h1 : (X.drop (k + b - 1))[1]? = (l.drop (k + b - 1))[1]? := by rw [hXd]
            rw [List.getElem?_drop, List.getElem?_drop, show k + b - 1 + 1 = k + b by omega, List.getElem?_eq_getElem (by omega), List.getElem?_eq_getElem hb] at h1
            simpa using h1
          have hX0 : X[k + b - 1]'(by omega) = l[k + b - 1] := by
            have h1 : (X.drop (k + b - 1))[0]? = (l.drop (k + b - 1))[0]? := by rw [hXd]
            rw [List.getElem?_drop, List.getElem?_drop, Nat.add_zero, List.getElem?_eq_getElem (by omega), List.getElem?_eq_getElem (by omega)] at h1
            simpa using h1
          refine hXR.ixI (i := b) (by simp; omega) fun q _ hc => LD_int hc ?_
          rw [wrap_of (by omega) (by omega), show ((b : Int) - 1) = ((b - 1 : Nat) : Int) by omega]
          refine hXR.ixI (i := b - 1) (by simp; omega) fun q _ hc => LD_int hc ?_
          intro w4 hE4
          simp only [List.getElem_drop, show k + (b - 1) = k + b - 1 by omega, hX1, hX0]
          have hC4 := hC.trans (Chg.of_ext hE4)
          have hO4 := hO.ext hE4
          have hd2 : X.drop (k + b) = l.drop (k + b) := by
            have := congrArg (List.drop 1) hXd
            rwa [List.drop_drop, List.drop_drop, show k + b - 1 + 1 = k + b by omega] at this
          refine cond_b (fun hne2 => ?_) (fun heq2 => ?_)
          · have hne' : l[k + b] ≠ l[k + b - 1] := by simpa using hne2
            have hcs : compTo l (k + b + 1) = compTo l (k + b) ++ [l[k + b]] := by
              rw [compTo, if_pos (.inr (by rw [getD_eq hb, getD_eq (by omega)]; exact hne')), getD_eq hb]
            refine (hXR.ext hE4).ixI (i := b) (by simp; omega) fun q _ hc => LD_int hc ?_
            simp only [List.getElem_drop, hX1]
            refine IX_own hO4 (i := a) (by omega) rfl fun q hq => ?_
            refine ST_own hO4 (i := a) (by omega) hq l[k + b] rfl fun w5 hO5 hs5 => ?_
            rw [wrap_of (by omega) (by omega), wrap_of (by omega) (by omega)]
            refine ⟨⟨a + 1, b + 1, by omega, by omega, by omega, by omega, by omega, by omega, hC4.trans (.of_step hs5 fun k hk => hk), X.set a l[k + b], hO5, by simpa using hXl, ?_, ?_, ?_, ?_⟩, by show l.length - (_ : Int).toNat < l.length - (_ : Int).toNat; omega⟩
            · rw [show k + (b + 1) = k + b + 1 by omega, hcs, ← hXa, List.take_succ_eq_append_getElem (by simp; omega), List.take_set, List.set_eq_of_length_le (by simp; omega)]
              simp
            · rw [show k + (b + 1) = k + b + 1 by omega, hcs]; simp [hal]
            · rw [show k + (b + 1) - 1 = k + b by omega, List.drop_set_of_lt (by omega)]
              exact hd2
            · intro x hx
              rcases List.mem_or_eq_of_mem_set hx with h1 | h1
              · exact hXo x h1
              · rw [h1]; exact hok _ (List.getElem_mem hb)
          · have heq' : l[k + b] = l[k + b - 1] := by simpa using heq2
            have hcs : compTo l (k + b + 1) = compTo l (k + b) := by
              rw [compTo, if_neg (by rw [getD_eq hb, getD_eq (by omega)]; simp only [not_or, Decidable.not_not]; exact ⟨by omega, heq'⟩), List.append_nil]
            rw [wrap_of (by omega) (by omega)]
            exact ⟨⟨a, b + 1, rfl, by omega, by omega, by omega, by omega, by omega, hC4, X, hO4, hXl, by rw [show k + (b + 1) = k + b + 1 by omega, hcs]; exact hXa, by rw [show k + (b + 1) = k + b + 1 by omega, hcs]; exact hal, by rw [show k + (b + 1) - 1 = k + b by omega]; exact hd2, hXo⟩, by show l.length - (_ : Int).toNat < l.length - (_ : Int).toNat; omega⟩
        · have hkb' : k + b = l.length := by omega
          rw [hkb'] at hXa hal
          have hcap : s.len ≤ s.cap := (hO.rep hXo).2.1.1
          refine SLC_from hcap (by omega) fun d2 hdl2 hda2 => ?_
          refine RUN_clearI slt_int hO (i := a) (by omega) (by rw [hda2 (by omega)]; simp) (by omega) fun w5 hO5 hs5 => ?_
          refine SLC_to (by omega) fun y hyl hya hyc => ?_
          refine ⟨hC.trans (.of_step hs5 fun k hk => hk), ?_, hya⟩
          have := hO5.front (k := a) (by simp; omega)
          have hy : y = ⟨s.a, a, s.cap⟩ := by cases y; simp_all
          rw [hy]
          rw [List.take_append_of_le_length (by simp; omega), List.take_take, Nat.min_self, hXa] at this
          exact this
      · have hneq' : l[k] ≠ l[k - 1] := by simpa using hneq
        rw [wrap_of (by omega) (by omega)]
        refine ⟨⟨k + 1, by omega, by omega, by omega, hE1.trans hE2, fun j h1 h2 => ?_⟩, by show l.length - (_ : Int).toNat < l.length - (_ : Int).toNat; omega⟩
        by_cases e : j = k
        · subst e; rw [getD_eq hk, getD_eq (by omega)]; exact hneq'
        · exact hne j h1 (by omega)
    · have : k = l.length := by omega
      subst this
      refine ⟨.of_ext hE1, ?_, rfl⟩
      rw [hall _ hk1 (Nat.le_refl _) hne, List.take_length]
      exact h.ext hE1

end Go.Proofs.YtndebacmnpghkaaGreat
end

section
/- slices.IndexFunc, slices.DeleteFunc and slices.CompactFunc at [][]int. -/
namespace Go.GX
open Go.RowKit

theorem OwnL.repB {α : Type} [Flat α] {w : World} {base : Nat} {e : TypeId} {s : Sl} {l : List α} (h : OwnL w base e s l) (hok : ∀ x ∈ l, Flat.ok x) : SlR (fun b => s.v.ownBlock = some b) w s l := by
  obtain ⟨h1, h2⟩ := h
  refine ⟨h1, ?_, fun i x hx => ?_⟩
  · rcases h2.2 with ⟨hv, h0⟩ | ⟨g, cap, cur, hv, _, _, hle, hmx, _⟩
    · simp [Sl.v] at hv; omega
    · simp [Sl.v] at hv; obtain ⟨_, rfl⟩ := hv; exact ⟨hle, hmx⟩
  · rcases h2.2 with ⟨hv, h0⟩ | ⟨g, cap, cur, hv, hb, hg, hle, _, hsz, htake⟩
    · rw [h0] at h1; have : l = [] := by cases l; rfl; simp at h1
      subst this; cases hx
    · simp [Sl.v] at hv
      obtain ⟨ha, rfl⟩ := hv
      refine ⟨⟨g, 0, none⟩, Flat.cells x, ha, by simp [Sl.v, ha, Value.ownBlock], Flat.repOk (hok x (List.mem_of_getElem? hx)), fun j v hj => ?_⟩
      have hown : w.ownsRow base e (Rep.sz α) s.v s.len (l.flatMap Flat.cells) := h2
      exact World.ownsRow.cells hown (g := g) (by simp [Sl.v, ha, Value.ownBlock]) _ v (flat_get l hx hj)

/-- What is owned is told by the slice. -/
theorem own_fun {w : World} {base base' : Nat} {e e' : TypeId} {s : Sl} {l l' : List Int} (h : OwnL w base e s l) (h' : OwnL w base' e' s l') : l = l' := by
  have hf : ∀ q : List Int, q.flatMap Flat.cells = q.map (Value.int .i64) := by
    intro q
    induction q with
    | nil => rfl
    | cons x r ih => rw [List.flatMap_cons, ih]; rfl
  have hl : l.length = l'.length := h.1.symm.trans h'.1
  rcases h.2.2 with ⟨hv, h0⟩ | ⟨g, cap, cur, hv, _, hg, _, _, _, htake⟩
  · rw [h.1] at h0
    have h1 : l = [] := List.length_eq_zero_iff.1 h0
    have h2 : l' = [] := List.length_eq_zero_iff.1 (hl.symm.trans h0)
    rw [h1, h2]
  · rcases h'.2.2 with ⟨hv', h0⟩ | ⟨g', cap', cur', hv', _, hg', _, _, _, htake'⟩
    · rw [h'.1] at h0
      have h1 : l' = [] := List.length_eq_zero_iff.1 h0
      have h2 : l = [] := List.length_eq_zero_iff.1 (hl.trans h0)
      rw [h1, h2]
    · rw [hv] at hv'
      cases hv'
      rw [hg] at hg'
      cases hg'
      rw [htake, hf, hf] at htake'
      exact (List.map_inj_right (f := Value.int .i64) fun x y hxy => by cases hxy; rfl).1 htake'

/-- Clearing the last part of a slice of slices of the call's own. -/
theorem RUN_clearS {P : Program} {t ti e : TypeId} {bytes : Nat} (hT : SlT P t e 1 bytes (.slice none 0 0)) {w : World} {base : Nat} {s d : Sl} {l : List Sl} (h : OwnL w base e s l) {i : Nat} (hi : i < l.length) (hd : d.a = s.a.map (·.add i)) (hdl : d.len = l.length - i) {K : Value → World → Prop}
    (hk : ∀ w', OwnL w' base e s (l.take i ++ List.replicate (l.length - i) ⟨none, 0, 0⟩) → Step w w' s.v.ownBlock → K (.tuple #[]) w') : RUN P (.at .val) (bsem .clear #[t] ti #[d.v]) w K := by
  rcases h.2.2 with ⟨hv, h0⟩ | ⟨g, cap, cur, hv, hb, hg, hle, hmx, hsz, htake⟩
  · have := h.1; omega
  · have hv' := hv
    simp [Sl.v] at hv
    obtain ⟨hsa, rfl⟩ := hv
    have hf : ∀ q : List Sl, q.flatMap Flat.cells = q.map Sl.v := by
      intro q
      induction q with
      | nil => rfl
      | cons x r ih => rw [List.flatMap_cons, ih]; rfl
    have hda : d.a = some ((⟨g, 0, none⟩ : Addr).add i) := by rw [hd, hsa]; rfl
    have hown : w.ownsRow base e 1 (.slice (some ⟨g, 0, none⟩) s.len s.cap) s.len (l.map Sl.v) := by
      have := h.2; unfold Go.GX.Own at this; rw [hv', hf] at this; exact this
    refine RUN_clear hT rfl hda (by omega) ?_
    refine setMany_own (List.replicate d.len (.slice none 0 0)) i _ w _ hown (by intro v hv; rw [List.eq_of_mem_replicate hv]; rfl) (by simp; omega) (fun w' hw' hs => hk w' ⟨by simp; have := h.1; omega, ?_⟩ (by rw [hv']; exact hs)) _ 0 (by simp only [Addr.add]; split <;> simp_all)
    unfold Go.GX.Own
    rw [hv', hf]
    have e1 : (l.take i ++ List.replicate (l.length - i) (⟨none, 0, 0⟩ : Sl)).map Sl.v = (l.map Sl.v).take i ++ List.replicate d.len (.slice none 0 0) ++ (l.map Sl.v).drop (i + (List.replicate d.len (Value.slice none 0 0)).length) := by
      rw [List.drop_of_length_le (by simp; omega)]
      simp [hdl, Sl.v]
    rw [e1]
    exact hw'

theorem SlR.ixS {D : Nat → Prop} {w : World} {s : Sl} {l : List Sl} (h : SlR D w s l) {i : Nat} (hi : i < l.length) {K : Addr → Prop}
    (hk : ∀ p, w.cell? p = some l[i].v → K p) : IX s i 1 K := by
  obtain ⟨a, cs, ha, _, hrep, hc⟩ := h.2.2 i l[i] (by simp [hi])
  have hcs : cs = [l[i].v] := hrep
  subst hcs
  have hlen := h.1
  exact ⟨a, ha, by omega, by omega, hk _ (hc 0 _ rfl)⟩

end Go.GX
namespace Go.Proofs.YtndebacmnpghkaaGreat
open Go.GX Go.RowKit
set_option maxRecDepth 100000

theorem indexFuncS_ok {w : World} {s : Sl} {l : List Sl} (h : R w s l) {f : Value} {p : Sl → Bool} (hf : ∀ x ∈ l, ∀ w', Ext w w' → CALLV Tryz.prog f #[x.v] w' (Ret [.at .bool] fun (b : Bool) w'' => b = p x ∧ Ext w' w'')) :
    Calls Tryz.prog F.slices_IndexFunc_sl_sl_int_sl_int #[s.v, f] w (Ret [.at (.int .i64)] fun (i : Int) w' => (match l.findIdx? p with | some k => i = k | none => i = -1) ∧ Ext w w') := by
  refine C_slices_IndexFunc_sl_sl_int_sl_int ?_
  unfold V_slices_IndexFunc_sl_sl_int_sl_int
  rw [h.len]
  refine ⟨IN l.length fun i w' => Ext w w' ∧ ∀ x ∈ l.take i, p x = false, MN l.length, IN_zero ⟨Ext.refl _, by simp⟩, ?_⟩
  rintro x w1 ⟨i, rfl, hi', hE, ha⟩
  intros
  refine cond_dec (fun hlt => ?_) (fun hge => ⟨?_, hE⟩)
  · have hlt' : i < l.length := by omega
    refine (h.ext hE).ixS hlt' fun q hc => LD_sl hc ?_
    refine callv (hf _ (List.getElem_mem hlt') w1 hE) ?_
    rintro b w2 ⟨rfl, hE2⟩
    refine cond_b (fun ht => ⟨?_, hE.trans hE2⟩) (fun hf => ?_)
    · have : l.findIdx? p = some i := by
        rw [List.findIdx?_eq_some_iff_getElem]
        refine ⟨hlt', ht, fun j hj => ?_⟩
        have := ha l[j] (by rw [List.mem_take_iff_getElem]; exact ⟨j, by omega, rfl⟩)
        simp [this]
      rw [this]
    · refine IN_next h.le hlt' ⟨hE.trans hE2, fun y hy => ?_⟩
      rw [List.take_succ_eq_append_getElem hlt'] at hy
      rcases List.mem_append.1 hy with h1 | h1
      · exact ha y h1
      · rw [List.mem_singleton.1 h1]; exact hf
  · have : i = l.length := by omega
    subst this
    have : l.findIdx? p = none := by
      rw [List.findIdx?_eq_none_iff]
      intro y hy
      exact ha y (by simpa using hy)
    rw [this]

theorem deleteFuncS_ok {w : World} {base : Nat} {s : Sl} {l : List Sl} (h : OwnL w base T.t_sl_int s l) (hl : l.length ≤ 1048576) {f : Value} {p : Sl → Bool}
    (hf : ∀ x ∈ l, ∀ w', Chg w w' (oB s) → CALLV Tryz.prog f #[x.v] w' (Ret [.at .bool] fun (b : Bool) w'' => b = p x ∧ Ext w' w'')) :
    Calls Tryz.prog F.slices_DeleteFunc_sl_sl_int_sl_int #[s.v, f] w (Ret [.at .sl] fun (r : Sl) w' => Chg w w' (oB s) ∧ OwnL w' base T.t_sl_int r (l.filter fun x => !p x) ∧ r.a = s.a) := by
  have hok : ∀ l : List Sl, ∀ x ∈ l, Flat.ok x := fun _ _ _ => trivial
  refine C_slices_DeleteFunc_sl_sl_int_sl_int ?_
  unfold V_slices_DeleteFunc_sl_sl_int_sl_int
  refine call (indexFuncS_ok (p := p) (h.rep (hok _)).any (fun x hx w' hw' => hf x hx w' (Chg.of_ext hw'))) ?_
  rintro i0 w1 ⟨hi0, hE1⟩
  cases hfi : l.findIdx? p with
  | none =>
    rw [hfi] at hi0
    simp only at hi0
    subst hi0
    have hnone := List.findIdx?_eq_none_iff.1 hfi
    refine cond_t rfl ⟨.of_ext hE1, ?_, rfl⟩
    have : l.filter (fun x => !p x) = l := List.filter_eq_self.2 fun x hx => by simp [hnone x hx]
    rw [this]; exact h.ext hE1
  | some k =>
    rw [hfi] at hi0
    simp only at hi0
    subst hi0
    obtain ⟨hk, hpk, hbef⟩ := List.findIdx?_eq_some_iff_getElem.1 hfi
    refine cond_f (by simp) ?_
    have hsl := h.1
    rw [wrap_of (by omega) (by omega)]
    have hfk : (l.take (k + 1)).filter (fun x => !p x) = l.take k := by
      rw [List.take_succ_eq_append_getElem hk, List.filter_append]
      have e1 : (l.take k).filter (fun x => !p x) = l.take k := List.filter_eq_self.2 fun x hx => by
        obtain ⟨j, hj, rfl⟩ := List.mem_take_iff_getElem.1 hx
        have := hbef j (by omega)
        simpa using this
      rw [e1]; simp [hpk]
    refine ⟨fun i j w' => ∃ a b : Nat, i = a ∧ j = b ∧ a < b ∧ b ≤ l.length ∧ Chg w w' (oB s) ∧ ∃ X : List Sl, OwnL w' base T.t_sl_int s X ∧ X.length = l.length ∧ X.take a = (l.take b).filter (fun x => !p x) ∧ ((l.take b).filter fun x => !p x).length = a ∧ X.drop b = l.drop b, fun _ j _ => l.length - j.toNat,
      ⟨k, k + 1, rfl, by omega, by omega, by omega, .of_ext hE1, l, h.ext hE1, rfl, hfk.symm, by rw [hfk]; simp; omega, rfl⟩, ?_⟩
    rintro _ _ w2 ⟨a, b, rfl, rfl, hab, hb, hC, X, hO, hXl, hXa, hal, hXd⟩
    intros
    rw [hsl]
    refine cond_dec (fun hlt => ?_) (fun hge => ?_)
    · have hb' : b < l.length := by omega
      have hXb : X[b]'(by omega) = l[b] := by
        have h1 : (X.drop b)[0]? = (l.drop b)[0]? := by rw [hXd]
        rw [List.getElem?_drop, List.getElem?_drop] at h1
        simp [hb', hXl] at h1
        exact h1
      refine (hO.rep (hok _)).ixS (i := b) (by omega) fun q hc => LD_sl hc ?_
      rw [hXb]
      refine callv (hf _ (List.getElem_mem hb') w2 hC) ?_
      rintro y w3 ⟨rfl, hE3⟩
      have hO3 := hO.ext hE3
      have hC3 := hC.trans (Chg.of_ext hE3)
      refine cond_not (fun hpf => ?_) (fun hpt => ?_)
      · refine IX_own hO3 (i := a) (by omega) rfl fun q hq => ?_
        refine ST_own hO3 (i := a) (by omega) hq l[b] rfl fun w4 hO4 hs4 => ?_
        rw [wrap_of (by omega) (by omega), wrap_of (by omega) (by omega)]
        have hfil : (l.take (b + 1)).filter (fun x => !p x) = (l.take b).filter (fun x => !p x) ++ [l[b]] := by
          rw [List.take_succ_eq_append_getElem hb', List.filter_append]; simp [hpf]
        refine ⟨⟨a + 1, b + 1, by omega, by omega, by omega, by omega, hC3.trans (.of_step hs4 fun k hk => hk), X.set a l[b], hO4, by simpa using hXl, ?_, by rw [hfil]; simp [hal], ?_⟩, by show l.length - (_ : Int).toNat < l.length - (_ : Int).toNat; omega⟩
        · rw [hfil, ← hXa, List.take_succ_eq_append_getElem (by simp; omega), List.take_set, List.set_eq_of_length_le (by simp; omega)]
          simp
        · rw [List.drop_set_of_lt (by omega)]
          have := congrArg (List.drop 1) hXd
          simpa [List.drop_drop] using this
      · rw [wrap_of (by omega) (by omega)]
        have hfil : (l.take (b + 1)).filter (fun x => !p x) = (l.take b).filter (fun x => !p x) := by
          rw [List.take_succ_eq_append_getElem hb', List.filter_append]; simp [hpt]
        refine ⟨⟨a, b + 1, rfl, by omega, by omega, by omega, hC3, X, hO3, hXl, by rw [hfil]; exact hXa, by rw [hfil]; exact hal, ?_⟩, by show l.length - (_ : Int).toNat < l.length - (_ : Int).toNat; omega⟩
        have := congrArg (List.drop 1) hXd
        simpa [List.drop_drop] using this
    · have : b = l.length := by omega
      subst this
      rw [List.take_length] at hXa hal
      have hcap : s.len ≤ s.cap := (hO.rep (hok _)).2.1.1
      refine SLC_from hcap (by omega) fun d hdl hda => ?_
      refine RUN_clearS slt_rows hO (i := a) (by omega) (by rw [hda (by omega)]; simp) (by omega) fun w5 hO5 hs5 => ?_
      refine SLC_to (by omega) fun y hyl hya hyc => ?_
      refine ⟨hC.trans (.of_step hs5 fun k hk => hk), ?_, hya⟩
      have := hO5.front (k := a) (by simp; omega)
      have hy : y = ⟨s.a, a, s.cap⟩ := by cases y; simp_all
      rw [hy]
      rw [List.take_append_of_le_length (by simp; omega), List.take_take, Nat.min_self, hXa] at this
      exact this

/-! ### slices.CompactFunc -/

def nil0 : Sl := ⟨none, 0, 0⟩

/-- What slices.CompactFunc keeps of the first b elements. -/
def compS (c : Sl → List Int) (l : List Sl) : Nat → List Sl
  | 0 => []
  | b + 1 => compS c l b ++ (if b = 0 ∨ c (l.getD b nil0) ≠ c (l.getD (b - 1) nil0) then [l.getD b nil0] else [])

theorem getDS {l : List Sl} {i : Nat} (hi : i < l.length) : l.getD i nil0 = l[i] := by
  rw [List.getD_eq_getElem?_getD, List.getElem?_eq_getElem hi]; rfl

theorem compS_sub (c : Sl → List Int) (l : List Sl) : ∀ {b : Nat}, b ≤ l.length → (compS c l b).Sublist (l.take b)
  | 0, _ => by simp [compS]
  | b + 1, hb => by
    rw [compS, List.take_succ_eq_append_getElem (by omega), getDS (by omega)]
    refine List.Sublist.append (compS_sub c l (by omega)) ?_
    split
    · exact List.Sublist.refl _
    · exact List.nil_sublist _

theorem compS_mem {c : Sl → List Int} {l : List Sl} : ∀ {b : Nat}, b ≤ l.length → ∀ y, y ∈ (compS c l b).map c ↔ y ∈ (l.take b).map c
  | 0, _, y => by simp [compS]
  | b + 1, hb, y => by
    rw [compS, List.take_succ_eq_append_getElem (by omega), getDS (by omega), List.map_append, List.map_append, List.mem_append, List.mem_append, compS_mem (by omega)]
    split
    · simp
    · rename_i h
      simp only [not_or, Decidable.not_not] at h
      constructor
      · rintro (h1 | h1)
        · exact .inl h1
        · simp at h1
      · rintro (h1 | h1)
        · exact .inl h1
        · left
          simp only [List.map_cons, List.map_nil, List.mem_singleton] at h1
          rw [h1, h.2, getDS (by omega)]
          exact List.mem_map.2 ⟨_, List.mem_take_iff_getElem.2 ⟨b - 1, by omega, rfl⟩, rfl⟩

theorem compS_rise {c : Sl → List Int} {l : List Sl} (hs : (l.map c).Pairwise fun a b => cmpL a b ≤ 0) : ∀ {b : Nat}, b ≤ l.length → ((compS c l b).map c).Pairwise fun a b => cmpL a b < 0
  | 0, _ => by simp [compS]
  | b + 1, hb => by
    rw [compS, getDS (by omega)]
    split
    · rename_i h
      rw [List.map_append]
      refine List.pairwise_append.2 ⟨compS_rise hs (by omega), by simp, ?_⟩
      intro x hx y hy
      simp at hy
      subst hy
      obtain ⟨z, hz, rfl⟩ := List.mem_map.1 ((compS_mem (by omega) _).1 hx)
      obtain ⟨j, hj, rfl⟩ := List.mem_take_iff_getElem.1 hz
      have hb' : b < l.length := by omega
      have hj' : j < b := by omega
      rcases h with h | h
      · omega
      · rw [getDS (by omega)] at h
        have hp : ∀ i k (hik : i < k) (hk : k < l.length), cmpL (c l[i]) (c l[k]) ≤ 0 := fun i k hik hk => by
          have := List.pairwise_iff_getElem.1 hs i k (by simp; omega) (by simpa using hk) hik
          simpa using this
        have h1 := hp (b - 1) b (by omega) hb'
        have h3 : cmpL (c l[b - 1]) (c l[b]) < 0 := by
          rcases Int.lt_or_eq_of_le h1 with h2 | h2
          · exact h2
          · exact absurd (cmpL_zero.1 h2).symm h
        by_cases e : j = b - 1
        · subst e; exact h3
        · have h2 := hp j (b - 1) (by omega) (by omega)
          rcases Int.lt_or_eq_of_le h2 with h4 | h4
          · exact cmpL_trans h4 h3
          · rw [cmpL_zero.1 h4]; exact h3
    · simpa using compS_rise hs (b := b) (by omega)

theorem compactFuncS_ok {w : World} {base : Nat} {s : Sl} {l : List Sl} {c : Sl → List Int} {f : Value} (h : OwnL w base T.t_sl_int s l) (hl : l.length ≤ 1048576)
    (hf : ∀ x ∈ l, ∀ y ∈ l, ∀ w', Chg w w' (oB s) → CALLV Tryz.prog f #[x.v, y.v] w' (Ret [.at .bool] fun (b : Bool) w'' => b = decide (c x = c y) ∧ Ext w' w'')) :
    Calls Tryz.prog F.slices_CompactFunc_sl_sl_int_sl_int #[s.v, f] w (Ret [.at .sl] fun (r : Sl) w' => Chg w w' (oB s) ∧ OwnL w' base T.t_sl_int r (compS c l l.length) ∧ r.a = s.a) := by
  have hok : ∀ l : List Sl, ∀ x ∈ l, Flat.ok x := fun _ _ _ => trivial
  refine C_slices_CompactFunc_sl_sl_int_sl_int ?_
  unfold V_slices_CompactFunc_sl_sl_int_sl_int
  have hsl := h.1
  have hr := h.rep (hok _)
  have hall : ∀ b, 1 ≤ b → b ≤ l.length → (∀ j, 1 ≤ j → j < b → c (l.getD j nil0) ≠ c (l.getD (j - 1) nil0)) → compS c l b = l.take b := by
    intro b
    induction b with
    | zero => intro h; omega
    | succ b ih =>
      intro _ hb hne
      rw [List.take_succ_eq_append_getElem (by omega), compS, getDS (by omega)]
      by_cases h0 : b = 0
      · subst h0; simp [compS]
      · rw [ih (by omega) (by omega) (fun j h1 h2 => hne j h1 (by omega)), if_pos (.inr (by have := hne b (by omega) (by omega); rwa [getDS (by omega)] at this))]
  rw [hsl]
  refine cond_dec (fun hlt => ?_) (fun hge => ?_)
  · refine ⟨Chg.refl _ _, ?_, rfl⟩
    have : compS c l l.length = l := by
      by_cases h0 : l.length = 0
      · rw [List.length_eq_zero_iff.1 h0]; rfl
      · rw [hall l.length (by omega) (Nat.le_refl _) (fun j h1 h2 => by omega), List.take_length]
    rw [this]; exact h
  · refine ⟨fun i w' => ∃ k : Nat, i = k ∧ 1 ≤ k ∧ k ≤ l.length ∧ Ext w w' ∧ ∀ j, 1 ≤ j → j < k → c (l.getD j nil0) ≠ c (l.getD (j - 1) nil0), fun i _ => l.length - i.toNat, ⟨1, rfl, by omega, by omega, Ext.refl _, fun j h1 h2 => by omega⟩, ?_⟩
    rintro _ w1 ⟨k, rfl, hk1, hkl, hE1, hne⟩
    intros
    refine cond_dec (fun hlt => ?_) (fun hge2 => ?_)
    · have hk : k < l.length := by omega
      intro w2 hE2 _
      have hE12 := hE1.trans hE2
      refine (hr.ext hE12).ixS (i := k) hk fun q hc => LD_sl hc ⟨Ext.refl _, Ext.refl _, ?_⟩
      rw [wrap_of (by omega) (by omega)]
      have e1 : ((k : Int) - 1) = ((k - 1 : Nat) : Int) := by omega
      rw [e1]
      refine (hr.ext hE12).ixS (i := k - 1) (by omega) fun q hc => ⟨Ext.refl _, LD_sl hc ⟨Ext.refl _, ?_⟩⟩
      refine callv (hf _ (List.getElem_mem hk) _ (List.getElem_mem (by omega)) w2 (Chg.of_ext hE12)) ?_
      rintro x w3 ⟨rfl, hE3⟩
      have hE13 := hE12.trans hE3
      refine ⟨hE3, ?_⟩
      refine cond_dec (fun heq => ?_) (fun hneq => ?_)
      · refine SLC_from' hr.2.1.1 (by omega) fun d hdl hdc hda => ?_
        have hck : compS c l (k + 1) = l.take k := by
          rw [compS, hall k hk1 (by omega) hne, if_neg (by rw [getDS hk, getDS (by omega)]; simp only [not_or, Decidable.not_not]; exact ⟨by omega, heq⟩), List.append_nil]
        refine ⟨fun i j w' => ∃ a b : Nat, i = a ∧ j = b ∧ 1 ≤ b ∧ k + b ≤ l.length ∧ a < k + b ∧ k ≤ a ∧ Chg w w' (oB s) ∧ ∃ X : List Sl, OwnL w' base T.t_sl_int s X ∧ X.length = l.length ∧ X.take a = compS c l (k + b) ∧ (compS c l (k + b)).length = a ∧ X.drop (k + b - 1) = l.drop (k + b - 1), fun _ j _ => l.length - j.toNat,
          ⟨k, 1, rfl, rfl, by omega, by omega, by omega, by omega, .of_ext hE13, l, h.ext hE13, rfl, hck.symm, by rw [hck]; simp; omega, rfl⟩, ?_⟩
        rintro _ _ w4 ⟨a, b, rfl, rfl, hb1, hkb, hab, hka, hC, X, hO, hXl, hXa, hal, hXd⟩
        intros
        rw [hdl, hsl]
        have hXR := slr_sub (hO.rep (hok _)) (i := k) (by omega) (by rw [hdl]) hdc hda
        refine cond_dec (fun hlt2 => ?_) (fun hge3 => ?_)
        · have hb : k + b < l.length := by omega
          have hX1 : X[k + b]'(by omega) = l[k + b] := by
            have h1 : (X.drop (k + b - 1))[1]? = (l.drop (k + b - 1))[1]? := by rw [hXd]
            rw [List.getElem?_drop, List.getElem?_drop, show k + b - 1 + 1 = k + b by omega, List.getElem?_eq_getElem (by omega), List.getElem?_eq_getElem hb] at h1
            simpa using h1
          have hX0 : X[k + b - 1]'(by omega) = l[k + b - 1] := by
            have h1 : (X.drop (k + b - 1))[0]? = (l.drop (k + b - 1))[0]? := by rw [hXd]
            rw [List.getElem?_drop, List.getElem?_drop, Nat.add_zero, List.getElem?_eq_getElem (by omega), List.getElem?_eq_getElem (by omega)] at h1
            simpa using h1
          intro w5 hE5 _
          have hC5 := hC.trans (Chg.of_ext hE5)
          have hO5 := hO.ext hE5
          refine (hXR.ext hE5).ixS (i := b) (by simp; omega) fun q hc => LD_sl hc ⟨Ext.refl _, Ext.refl _, ?_⟩
          rw [wrap_of (by omega) (by omega), show ((b : Int) - 1) = ((b - 1 : Nat) : Int) by omega]
          refine (hXR.ext hE5).ixS (i := b - 1) (by simp; omega) fun q hc => ⟨Ext.refl _, LD_sl hc ⟨Ext.refl _, ?_⟩⟩
          simp only [List.getElem_drop, show k + (b - 1) = k + b - 1 by omega, hX1, hX0]
          refine callv (hf _ (List.getElem_mem hb) _ (List.getElem_mem (by omega)) w5 hC5) ?_
          rintro x w6 ⟨rfl, hE6⟩
          have hC6 := hC5.trans (Chg.of_ext hE6)
          have hO6 := hO5.ext hE6
          refine ⟨hE6, hE6, ?_⟩
          have hd2 : X.drop (k + b) = l.drop (k + b) := by
            have := congrArg (List.drop 1) hXd
            rwa [List.drop_drop, List.drop_drop, show k + b - 1 + 1 = k + b by omega] at this
          refine cond_not (fun hne2 => ?_) (fun heq2 => ?_)
          · have hne' : c l[k + b] ≠ c l[k + b - 1] := by simpa using hne2
            have hcs : compS c l (k + b + 1) = compS c l (k + b) ++ [l[k + b]] := by
              rw [compS, if_pos (.inr (by rw [getDS hb, getDS (by omega)]; exact hne')), getDS hb]
            refine ((hXR.ext hE5).ext hE6).ixS (i := b) (by simp; omega) fun q hc => LD_sl hc ?_
            simp only [List.getElem_drop, hX1]
            refine IX_own hO6 (i := a) (by omega) rfl fun q hq => ?_
            refine ST_own hO6 (i := a) (by omega) hq l[k + b] rfl fun w7 hO7 hs7 => ?_
            rw [wrap_of (by omega) (by omega), wrap_of (by omega) (by omega)]
            refine ⟨⟨a + 1, b + 1, by omega, by omega, by omega, by omega, by omega, by omega, hC6.trans (.of_step hs7 fun k hk => hk), X.set a l[k + b], hO7, by simpa using hXl, ?_, ?_, ?_⟩, by show l.length - (_ : Int).toNat < l.length - (_ : Int).toNat; omega⟩
            · rw [show k + (b + 1) = k + b + 1 by omega, hcs, ← hXa, List.take_succ_eq_append_getElem (by simp; omega), List.take_set, List.set_eq_of_length_le (by simp; omega)]
              simp
            · rw [show k + (b + 1) = k + b + 1 by omega, hcs]; simp [hal]
            · rw [show k + (b + 1) - 1 = k + b by omega, List.drop_set_of_lt (by omega)]
              exact hd2
          · have heq' : c l[k + b] = c l[k + b - 1] := by simpa using heq2
            have hcs : compS c l (k + b + 1) = compS c l (k + b) := by
              rw [compS, if_neg (by rw [getDS hb, getDS (by omega)]; simp only [not_or, Decidable.not_not]; exact ⟨by omega, heq'⟩), List.append_nil]
            rw [wrap_of (by omega) (by omega)]
            exact ⟨⟨a, b + 1, rfl, by omega, by omega, by omega, by omega, by omega, hC6, X, hO6, hXl, by rw [show k + (b + 1) = k + b + 1 by omega, hcs]; exact hXa, by rw [show k + (b + 1) = k + b + 1 by omega, hcs]; exact hal, by rw [show k + (b + 1) - 1 = k + b by omega]; exact hd2⟩, by show l.length - (_ : Int).toNat < l.length - (_ : Int).toNat; omega⟩
        · have hkb' : k + b = l.length := by omega
          rw [hkb'] at hXa hal
          have hcap : s.len ≤ s.cap := (hO.rep (hok _)).2.1.1
          refine SLC_from hcap (by omega) fun d2 hdl2 hda2 => ?_
          refine RUN_clearS slt_rows hO (i := a) (by omega) (by rw [hda2 (by omega)]; simp) (by omega) fun w5 hO5 hs5 => ?_
          refine SLC_to (by omega) fun y hyl hya hyc => ?_
          refine ⟨hC.trans (.of_step hs5 fun k hk => hk), ?_, hya⟩
          have := hO5.front (k := a) (by simp; omega)
          have hy : y = ⟨s.a, a, s.cap⟩ := by cases y; simp_all
          rw [hy]
          rw [List.take_append_of_le_length (by simp; omega), List.take_take, Nat.min_self, hXa] at this
          exact this
      · rw [wrap_of (by omega) (by omega)]
        refine ⟨⟨k + 1, by omega, by omega, by omega, hE13, fun j h1 h2 => ?_⟩, by show l.length - (_ : Int).toNat < l.length - (_ : Int).toNat; omega⟩
        by_cases e : j = k
        · subst e; rw [getDS hk, getDS (by omega)]; exact hneq
        · exact hne j h1 (by omega)
    · have : k = l.length := by omega
      subst this
      refine ⟨.of_ext hE1, ?_, rfl⟩
      rw [hall _ hk1 (Nat.le_refl _) hne, List.take_length]
      exact h.ext hE1

end Go.Proofs.YtndebacmnpghkaaGreat
end

section
/- Contracts of library functions (the kit's shelf, laid at this program by the kit's own tools, in plain words). -/
namespace Go.Proofs.YtndebacmnpghkaaGreat
open Go.Shelf
def Srt.laysSlF6_f256_ren : Go.Shelf.Ren := ⟨fun | 6 => 256 | 15 => 200 | 14 => 267 | 28 => 243 | 29 => 244 | 20 => 270 | 21 => 271 | 22 => 272 | 23 => 273 | 24 => 274 | 25 => 275 | 26 => 276 | 27 => 277 | 46 => 278 | 47 => 263 | 48 => 264 | 49 => 279 | 50 => 280 | 57 => 281 | n => n, fun | 22 => 23 | 24 => 40 | 25 => 160 | 3 => 3 | 39 => 182 | 0 => 0 | 53 => 214 | 55 => 216 | 4 => 4 | 46 => 209 | 45 => 208 | 50 => 35 | 5 => 5 | 9 => 9 | 66 => 227 | 70 => 231 | 76 => 235 | 77 => 176 | n => n, fun | n => n⟩
theorem Srt.laysSlF6_f256 : Go.Proofs.SlLaysF.n6 Tryz.prog Srt.laysSlF6_f256_ren := {
  mixed := by kernel_rfl
  f6 := ⟨Tryz.f256.name, by decide, Tryz.func256.trans (congrArg some (by kernel_rfl))⟩
  f14 := ⟨Tryz.f267.name, by decide, Tryz.func267.trans (congrArg some (by kernel_rfl))⟩
  f15 := Tryz.func200.trans (congrArg some (by kernel_rfl))
  f20 := ⟨Tryz.f270.name, by decide, Tryz.func270.trans (congrArg some (by kernel_rfl))⟩
  f21 := ⟨Tryz.f271.name, by decide, Tryz.func271.trans (congrArg some (by kernel_rfl))⟩
  f22 := ⟨Tryz.f272.name, by decide, Tryz.func272.trans (congrArg some (by kernel_rfl))⟩
  f23 := ⟨Tryz.f273.name, by decide, Tryz.func273.trans (congrArg some (by kernel_rfl))⟩
  f24 := ⟨Tryz.f274.name, by decide, Tryz.func274.trans (congrArg some (by kernel_rfl))⟩
  f25 := ⟨Tryz.f275.name, by decide, Tryz.func275.trans (congrArg some (by kernel_rfl))⟩
  f26 := ⟨Tryz.f276.name, by decide, Tryz.func276.trans (congrArg some (by kernel_rfl))⟩
  f27 := ⟨Tryz.f277.name, by decide, Tryz.func277.trans (congrArg some (by kernel_rfl))⟩
  f28 := Tryz.func243.trans (congrArg some (by kernel_rfl))
  f29 := Tryz.func244.trans (congrArg some (by kernel_rfl))
  f46 := ⟨Tryz.f278.name, by decide, Tryz.func278.trans (congrArg some (by kernel_rfl))⟩
  f47 := Tryz.func263.trans (congrArg some (by kernel_rfl))
  f48 := Tryz.func264.trans (congrArg some (by kernel_rfl))
  f49 := ⟨Tryz.f279.name, by decide, Tryz.func279.trans (congrArg some (by kernel_rfl))⟩
  f50 := ⟨Tryz.f280.name, by decide, Tryz.func280.trans (congrArg some (by kernel_rfl))⟩
  f57 := ⟨Tryz.f281.name, by decide, Tryz.func281.trans (congrArg some (by kernel_rfl))⟩
  t0 := Tryz.underlying0
  a0 := Tryz.isAgg0
  z0 := Tryz.sizeOf0
  v0 := Tryz.zeroValue0
  t3 := Tryz.underlying3
  a3 := Tryz.isAgg3
  z3 := Tryz.sizeOf3
  v3 := Tryz.zeroValue3
  t4 := Tryz.underlying4
  a4 := Tryz.isAgg4
  z4 := Tryz.sizeOf4
  v4 := Tryz.zeroValue4
  t5 := Tryz.underlying5
  a5 := Tryz.isAgg5
  z5 := Tryz.sizeOf5
  v5 := Tryz.zeroValue5
  t9 := Tryz.underlying9
  a9 := Tryz.isAgg9
  z9 := Tryz.sizeOf9
  v9 := Tryz.zeroValue9
  t22 := Tryz.underlying23
  a22 := Tryz.isAgg23
  z22 := Tryz.sizeOf23
  v22 := Tryz.zeroValue23
  a24 := Tryz.isAgg40
  z24 := Tryz.sizeOf40
  t25 := Tryz.underlying160
  a25 := Tryz.isAgg160
  z25 := Tryz.sizeOf160
  v25 := Tryz.zeroValue160
  t39 := Tryz.underlying182
  a39 := Tryz.isAgg182
  z39 := Tryz.sizeOf182
  v39 := Tryz.zeroValue182
  t45 := Tryz.underlying208
  a45 := Tryz.isAgg208
  z45 := Tryz.sizeOf208
  v45 := Tryz.zeroValue208
  t46 := Tryz.underlying209
  a46 := Tryz.isAgg209
  z46 := Tryz.sizeOf209
  v46 := Tryz.zeroValue209
  t50 := Tryz.underlying35
  a50 := Tryz.isAgg35
  z50 := Tryz.sizeOf35
  v50 := Tryz.zeroValue35
  t53 := Tryz.underlying214
  a53 := Tryz.isAgg214
  z53 := Tryz.sizeOf214
  v53 := Tryz.zeroValue214
  t55 := Tryz.underlying216
  a55 := Tryz.isAgg216
  z55 := Tryz.sizeOf216
  v55 := Tryz.zeroValue216
  t66 := Tryz.underlying227
  a66 := Tryz.isAgg227
  z66 := Tryz.sizeOf227
  v66 := Tryz.zeroValue227
  t70 := Tryz.underlying231
  a70 := Tryz.isAgg231
  z70 := Tryz.sizeOf231
  v70 := Tryz.zeroValue231
  t76 := Tryz.underlying235
  a76 := Tryz.isAgg235
  z76 := Tryz.sizeOf235
  v76 := Tryz.zeroValue235
  t77 := Tryz.underlying176
  a77 := Tryz.isAgg176
  z77 := Tryz.sizeOf176
  v77 := Tryz.zeroValue176 }
open Go.RowKit Go.Lib Go.Sort in
/-- **slices.SortFunc, IN THE DOCUMENTATION's OWN TERMS: A PERMUTATION OF WHAT THE ROW HELD, SORTED BY 'cmp(a, b) < 0'.** Which of two equals comes first is left open ("The sort is not guaranteed to be stable"). (LAID AT THE INSTANCE 'slices.SortFunc[[][]int,[]int]': no walk: one application.) -/
theorem Srt.slices_SortFunc {α : Type} [Inhabited α] (enc : α → Value) (h1 : OneCell enc) (cf : α → α → Int) (hO : SWO (ltOf cf)) (g : Nat) (cb : Array Value) (blk off cap : Nat) (d : Array α) (w : World) (eg : ∀ args w, (callFunc g args).run Tryz.prog w = .ok (.enter g args) w) (hcmp : CmpLays1 Tryz.prog g cb enc cf blk off d.size w) (hH : Holds enc w blk off d) (hblk : blk < w.heap.size) (hsz : d.size < 4611686018427387904) :
    Calls Tryz.prog 256 #[.slice (some ⟨blk, off, none⟩) d.size cap, .func (.func g) #[] cb] w fun e w' =>
      e = .returned (.tuple #[]) ∧ ∃ d' n os, PermIn 0 d.size d d' ∧ SortedIn (ltOf cf) 0 d.size d' ∧ w' = sortWorld enc w blk off n d' os := Any.slices_SortFunc Srt.laysSlF6_f256 enc h1 cf hO g cb blk off cap d w eg hcmp hH hblk hsz
def Srt.laysSlF06_f256_ren : Go.Shelf.Ren := ⟨fun | 6 => 256 | 15 => 200 | 14 => 267 | 28 => 243 | 29 => 244 | 20 => 270 | 21 => 271 | 22 => 272 | 23 => 273 | 24 => 274 | 25 => 275 | 26 => 276 | 27 => 277 | 46 => 278 | 47 => 263 | 48 => 264 | 49 => 279 | 50 => 280 | 57 => 281 | n => n, fun | 22 => 23 | 24 => 40 | 25 => 160 | 3 => 3 | 39 => 182 | 0 => 0 | 53 => 214 | 55 => 216 | 4 => 4 | 46 => 209 | 45 => 208 | 50 => 35 | 5 => 5 | 9 => 9 | 66 => 227 | 70 => 231 | 76 => 235 | 77 => 176 | n => n, fun | n => n⟩
theorem Srt.laysSlF06_f256 : Go.Proofs.SlLaysF0.n6 Tryz.prog Srt.laysSlF06_f256_ren := {
  mixed := by kernel_rfl
  f6 := ⟨Tryz.f256.name, by decide, Tryz.func256.trans (congrArg some (by kernel_rfl))⟩
  f14 := ⟨Tryz.f267.name, by decide, Tryz.func267.trans (congrArg some (by kernel_rfl))⟩
  f15 := Tryz.func200.trans (congrArg some (by kernel_rfl))
  f20 := ⟨Tryz.f270.name, by decide, Tryz.func270.trans (congrArg some (by kernel_rfl))⟩
  f21 := ⟨Tryz.f271.name, by decide, Tryz.func271.trans (congrArg some (by kernel_rfl))⟩
  f22 := ⟨Tryz.f272.name, by decide, Tryz.func272.trans (congrArg some (by kernel_rfl))⟩
  f23 := ⟨Tryz.f273.name, by decide, Tryz.func273.trans (congrArg some (by kernel_rfl))⟩
  f24 := ⟨Tryz.f274.name, by decide, Tryz.func274.trans (congrArg some (by kernel_rfl))⟩
  f25 := ⟨Tryz.f275.name, by decide, Tryz.func275.trans (congrArg some (by kernel_rfl))⟩
  f26 := ⟨Tryz.f276.name, by decide, Tryz.func276.trans (congrArg some (by kernel_rfl))⟩
  f27 := ⟨Tryz.f277.name, by decide, Tryz.func277.trans (congrArg some (by kernel_rfl))⟩
  f28 := Tryz.func243.trans (congrArg some (by kernel_rfl))
  f29 := Tryz.func244.trans (congrArg some (by kernel_rfl))
  f46 := ⟨Tryz.f278.name, by decide, Tryz.func278.trans (congrArg some (by kernel_rfl))⟩
  f47 := Tryz.func263.trans (congrArg some (by kernel_rfl))
  f48 := Tryz.func264.trans (congrArg some (by kernel_rfl))
  f49 := ⟨Tryz.f279.name, by decide, Tryz.func279.trans (congrArg some (by kernel_rfl))⟩
  f50 := ⟨Tryz.f280.name, by decide, Tryz.func280.trans (congrArg some (by kernel_rfl))⟩
  f57 := ⟨Tryz.f281.name, by decide, Tryz.func281.trans (congrArg some (by kernel_rfl))⟩
  t0 := Tryz.underlying0
  a0 := Tryz.isAgg0
  z0 := Tryz.sizeOf0
  v0 := Tryz.zeroValue0
  t3 := Tryz.underlying3
  a3 := Tryz.isAgg3
  z3 := Tryz.sizeOf3
  v3 := Tryz.zeroValue3
  t4 := Tryz.underlying4
  a4 := Tryz.isAgg4
  z4 := Tryz.sizeOf4
  v4 := Tryz.zeroValue4
  t5 := Tryz.underlying5
  a5 := Tryz.isAgg5
  z5 := Tryz.sizeOf5
  v5 := Tryz.zeroValue5
  t9 := Tryz.underlying9
  a9 := Tryz.isAgg9
  z9 := Tryz.sizeOf9
  v9 := Tryz.zeroValue9
  t22 := Tryz.underlying23
  a22 := Tryz.isAgg23
  z22 := Tryz.sizeOf23
  v22 := Tryz.zeroValue23
  t25 := Tryz.underlying160
  a25 := Tryz.isAgg160
  z25 := Tryz.sizeOf160
  v25 := Tryz.zeroValue160
  t39 := Tryz.underlying182
  a39 := Tryz.isAgg182
  z39 := Tryz.sizeOf182
  v39 := Tryz.zeroValue182
  t45 := Tryz.underlying208
  a45 := Tryz.isAgg208
  z45 := Tryz.sizeOf208
  v45 := Tryz.zeroValue208
  t46 := Tryz.underlying209
  a46 := Tryz.isAgg209
  z46 := Tryz.sizeOf209
  v46 := Tryz.zeroValue209
  t50 := Tryz.underlying35
  a50 := Tryz.isAgg35
  z50 := Tryz.sizeOf35
  v50 := Tryz.zeroValue35
  t53 := Tryz.underlying214
  a53 := Tryz.isAgg214
  z53 := Tryz.sizeOf214
  v53 := Tryz.zeroValue214
  t55 := Tryz.underlying216
  a55 := Tryz.isAgg216
  z55 := Tryz.sizeOf216
  v55 := Tryz.zeroValue216
  t66 := Tryz.underlying227
  a66 := Tryz.isAgg227
  z66 := Tryz.sizeOf227
  v66 := Tryz.zeroValue227
  t70 := Tryz.underlying231
  a70 := Tryz.isAgg231
  z70 := Tryz.sizeOf231
  v70 := Tryz.zeroValue231
  t76 := Tryz.underlying235
  a76 := Tryz.isAgg235
  z76 := Tryz.sizeOf235
  v76 := Tryz.zeroValue235
  t77 := Tryz.underlying176
  a77 := Tryz.isAgg176
  z77 := Tryz.sizeOf176
  v77 := Tryz.zeroValue176 }
open Go.RowKit Go.Lib Go.Sort in
/-- **slices.SortFunc AT NO ELEMENT, A nil SLICE TOO: nothing turns.** (LAID AT THE INSTANCE 'slices.SortFunc[[][]int,[]int]': no walk: one application.) -/
theorem Srt.slices_SortFunc_none {α : Type} [Inhabited α] (p : Option Addr) (cap : Nat) (fv : Value) (w : World) :
    Calls Tryz.prog 256 #[.slice p 0 cap, fv] w fun e w' => e = .returned (.tuple #[]) ∧ w' = w := AnyF.slices_SortFunc_none Srt.laysSlF06_f256 p cap fv w
end Go.Proofs.YtndebacmnpghkaaGreat
end

section
/- slices.SortFunc at [][]int under slices.Compare; lists in order, each once. -/
namespace Go
open Go.Sort Go.Proofs

theorem holds_of_blockE {α : Type} [Inhabited α] (enc : α → Value) {w : World} {g : Nat} {cur : Array Value} {e : TypeId} {d : Array α} (hb : w.heap[g]? = some (.cells cur e (0, 0))) (ht : cur.toList.take d.size = d.toList.map enc) : Holds enc w g 0 d := by
  intro j hj
  refine ⟨?_, by simp [World.frozen?, hb]⟩
  have h1 : (cur.toList.take d.size)[j]? = (d.toList.map enc)[j]? := by rw [ht]
  rw [List.getElem?_take_of_lt hj] at h1
  simp only [World.cell?, hb, Nat.zero_add]
  simp only [Option.isSome_none, Bool.false_eq_true, if_false]
  rw [← Array.getElem?_toList, h1]
  simp [hj]

theorem heap_sortedE {α : Type} [Inhabited α] (enc : α → Value) {w : World} {g n : Nat} {os : Array Obj} {cur : Array Value} {e : TypeId} {fr : Nat × Nat} (d : Array α) (hb : w.heap[g]? = some (.cells cur e fr)) :
    (grow (putRow enc (Sort.ahead w n) g 0 d) os).heap[g]? = some (.cells (putCells enc 0 d cur) e fr) := by
  have hg : g < w.heap.size := (Array.getElem?_eq_some_iff.1 hb).1
  rw [heap_grow_old _ _ (by simpa using hg)]
  simp [putRow, mapBlock, Sort.ahead, Array.getElem?_modify, hb, onCells]

theorem grownBy_sortedE {α : Type} [Inhabited α] (enc : α → Value) {w : World} {g n : Nat} {os : Array Obj} (d : Array α) : w.grownBy (grow (putRow enc (Sort.ahead w n) g 0 d) os) (some g) := by
  refine ⟨rfl, rfl, rfl, by simp, fun k hk hne => ?_⟩
  rw [heap_grow_old _ _ (by simpa using hk)]
  have : g ≠ k := fun e => hne (by rw [e])
  simp [putRow, mapBlock, Sort.ahead, Array.getElem?_modify, this]

theorem take_putCellsE {α : Type} [Inhabited α] (enc : α → Value) (cur : Array Value) (d : Array α) (h : d.size ≤ cur.size) : (putCells enc 0 d cur).toList.take d.size = d.toList.map enc := by
  apply List.ext_getElem?
  intro j
  by_cases hj : j < d.size
  · rw [List.getElem?_take_of_lt hj, Array.getElem?_toList]
    simp [putCells, hj, show j < cur.size by omega]
  · rw [List.getElem?_take_eq_none (by omega), List.getElem?_eq_none (by simp; omega)]

theorem ownsRow_sortedE {α : Type} [Inhabited α] (enc : α → Value) {w : World} {base g cap n k : Nat} {e : TypeId} {os : Array Obj} {cur : Array Value} {d : Array α} (hl : d.size = k) (hbase : base ≤ g) (hb : w.heap[g]? = some (.cells cur e (0, 0)))
    (h1 : k ≤ cap) (h2 : cap ≤ maxLen) (h3 : cur.size = cap * 1) :
    (grow (putRow enc (Sort.ahead w n) g 0 d) os).ownsRow base e 1 (.slice (some ⟨g, 0, none⟩) k cap) k (d.toList.map enc) :=
  ⟨by simp [hl], .inr ⟨g, cap, _, rfl, hbase, heap_sortedE enc _ hb, h1, h2, by simp [putCells, h3], by rw [Nat.mul_one, ← hl]; exact take_putCellsE enc cur d (by omega)⟩⟩

end Go
namespace Go.Proofs.YtndebacmnpghkaaGreat
open Go.GX Go.RowKit Go.Sort
set_option maxRecDepth 100000

theorem cmpL_neg : ∀ a b : List Int, cmpL b a = - cmpL a b
  | [], [] => rfl
  | [], _ :: _ => rfl
  | _ :: _, [] => rfl
  | x :: a, y :: b => by
    rw [cmpL, cmpL]
    by_cases h1 : x < y
    · rw [if_pos h1, if_neg (by omega), if_pos h1]
      rfl
    · by_cases h2 : y < x
      · rw [if_pos h2, if_neg h1, if_pos h2]
      · rw [if_neg h2, if_neg h1, if_neg h1, if_neg h2]
        exact cmpL_neg a b

theorem cmpL_le_trans {a b c : List Int} (h1 : cmpL a b ≤ 0) (h2 : cmpL b c ≤ 0) : cmpL a c ≤ 0 := by
  rcases Int.lt_or_eq_of_le h1 with h3 | h3
  · rcases Int.lt_or_eq_of_le h2 with h4 | h4
    · have := cmpL_trans h3 h4; omega
    · rw [← cmpL_zero.1 h4]; exact h1
  · rw [cmpL_zero.1 h3]; exact h2

theorem Ret_int {Q : Int → World → Prop} {e : Ending} {w : World} (h : Ret [.at (.int .i64)] Q e w) : ∃ b, e = .returned (.int .i64 b) ∧ Q b w := by
  cases e with
  | returned v =>
    simp only [Ret] at h
    cases v <;> simp [unR, Sh.cells, app, At.un, atsR, botW] at h
    rename_i k n
    cases k <;> first | exact ⟨_, rfl, h⟩ | exact h.elim
  | panicked _ => exact h.elim
  | outgrown => exact h.elim

theorem sortRows_ok {w : World} {base : Nat} {s : Sl} {ss : List Sl} {c : Sl → List Int} (h : OwnL w base T.t_sl_int s ss) (hl : ss.length ≤ 1048576) (hc : ∀ x ∈ ss, SlR (fun b => ¬ oB s b) w x (c x)) :
    Calls Tryz.prog F.slices_SortFunc_sl_sl_int_sl_int #[s.v, .func (.func F.slices_Compare_sl_int_int) #[] #[]] w (Ret [] fun w' => ∃ tt, OwnL w' base T.t_sl_int s tt ∧ tt.Perm ss ∧ (tt.map c).Pairwise (fun a b => cmpL a b ≤ 0) ∧ Step w w' s.v.ownBlock) := by
  have hf : ∀ q : List Sl, q.flatMap Flat.cells = q.map Sl.v := by
    intro q
    induction q with
    | nil => rfl
    | cons x r ih => rw [List.flatMap_cons, ih]; rfl
  have hzero : s.len = 0 → Calls Tryz.prog F.slices_SortFunc_sl_sl_int_sl_int #[s.v, .func (.func F.slices_Compare_sl_int_int) #[] #[]] w (Ret [] fun w' => ∃ tt, OwnL w' base T.t_sl_int s tt ∧ tt.Perm ss ∧ (tt.map c).Pairwise (fun a b => cmpL a b ≤ 0) ∧ Step w w' s.v.ownBlock) := fun hlen => by
    have hnil : ss = [] := List.length_eq_zero_iff.1 (by rw [← h.1]; exact hlen)
    subst hnil
    have hsv : s.v = .slice s.a 0 s.cap := by rw [← hlen]
    rw [hsv]
    refine (Srt.slices_SortFunc_none (α := Nat) s.a s.cap _ w).mono ?_
    rintro e w' ⟨rfl, rfl⟩
    exact Ret_nil ⟨[], h, List.Perm.refl _, List.Pairwise.nil, Step.refl _ _⟩
  rcases h.2.2 with ⟨hv, h0⟩ | ⟨g, cap, cur, hv, hb, hg, hle, hmx, hsz, htake⟩
  · exact hzero h0
  · by_cases h0 : s.len = 0
    · exact hzero h0
    have hpos : 0 < ss.length := by rw [← h.1]; omega
    have hsb : oB s g := by unfold oB; rw [hv]; rfl
    let α : Type := {x : Sl // x ∈ ss}
    let enc : α → Value := fun x => x.1.v
    let cf : α → α → Int := fun x y => cmpL (c x.1) (c y.1)
    have inh : Inhabited α := ⟨⟨ss[0], List.getElem_mem hpos⟩⟩
    let d : Array α := ss.attach.toArray
    have hd1 : d.toList.map enc = ss.map Sl.v := by
      show (ss.attach.toArray).toList.map (fun x => x.1.v) = _
      have e0 : ss.attach.map (fun x => x.1.v) = (ss.attach.map Subtype.val).map Sl.v := by rw [List.map_map]; rfl
      show ss.attach.map (fun x => x.1.v) = _
      rw [e0, List.attach_map_subtype_val]
    have hds : d.size = ss.length := by show (ss.attach.toArray).size = _; simp
    have hsv : s.v = .slice (some ⟨g, 0, none⟩) d.size cap := by rw [hds, ← h.1]; exact hv
    rw [hsv]
    have hSWO : SWO (ltOf cf) := by
      refine ⟨fun x => ?_, fun x y z h1 h2 => ?_, fun x y z h1 h2 => ?_⟩
      · simp only [ltOf, cf, cmpL_zero.2 rfl]; decide
      · simp only [ltOf, cf, decide_eq_true_eq] at h1 h2 ⊢
        exact cmpL_trans h1 h2
      · simp only [ltOf, cf, decide_eq_false_iff_not] at h1 h2 ⊢
        have e1 := cmpL_neg (c x.1) (c y.1)
        have e2 := cmpL_neg (c y.1) (c z.1)
        have e3 := cmpL_neg (c x.1) (c z.1)
        have := cmpL_le_trans (a := c z.1) (b := c y.1) (c := c x.1) (by omega) (by omega)
        omega
    have hst : ∀ (m : Nat) (os : Array Obj) (dk : Array α), ∀ x ∈ ss, R (sortWorld enc w g 0 m dk os) x (c x) := fun m os dk x hx => by
      have hS : Step w (sortWorld enc w g 0 m dk os) (some g) := Step.of_grown (grownBy_sortedE enc dk)
      exact ((hc x hx).stepD hS fun b hb he => hb (by cases he; exact hsb)).any
    refine (Srt.slices_SortFunc enc (fun x => rfl) cf hSWO F.slices_Compare_sl_int_int #[] g 0 cap d w (run_callFunc (by kernel_rfl)) ?_ (holds_of_blockE enc hg (by
      rw [hd1, hds, ← hf, ← htake, h.1]; simp [Rep.sz])) (Array.getElem?_eq_some_iff.1 hg).1 (by omega)).mono ?_
    · intro m os dk hdk x y
      refine (compare_ok (hst m os dk x.1 x.2) (hst m os dk y.1 y.2)).mono ?_
      intro e w' hR
      obtain ⟨r, rfl, hr, rfl⟩ := Ret_int hR
      exact ⟨by rw [hr], 0, #[], by simp [World.drewN, grow]⟩
    · rintro e w' ⟨rfl, d', n, os, hP, hS, rfl⟩
      obtain ⟨hP1, -, hP3⟩ := hP
      have hd's : d'.size = ss.length := hP1.trans hds
      have e1 : d'.extract 0 d.size = d' := by rw [← hP1]; exact Array.extract_size
      have e2 : d.extract 0 d.size = d := Array.extract_size
      rw [e1, e2] at hP3
      have hpm : (d'.toList.map Subtype.val).Perm ss := by
        have := hP3.map Subtype.val
        have e3 : d.toList.map Subtype.val = ss := by
          show (ss.attach.toArray).toList.map Subtype.val = ss
          exact List.attach_map_subtype_val ss
        rwa [e3] at this
      refine Ret_nil ⟨d'.toList.map Subtype.val, ⟨?_, ?_⟩, hpm, ?_, Step.of_grown (grownBy_sortedE enc d')⟩
      · rw [hpm.length_eq]; exact h.1
      · unfold Go.GX.Own
        rw [hf, h.1, hsv, List.map_map]
        have := ownsRow_sortedE enc (w := w) (base := base) (g := g) (cap := cap) (n := n) (k := d.size) (e := T.t_sl_int) (os := os) (cur := cur) (d := d') hP1 hb hg (by rw [hds, ← h.1]; exact hle) hmx hsz
        rw [← hds]
        exact this
      · rw [List.map_map, List.pairwise_map, List.pairwise_iff_getElem]
        intro i j hi hj hij
        have hi' : i < d'.size := by simpa using hi
        have hj' : j < d'.size := by simpa using hj
        have := hS i j (Nat.zero_le _) hij (by omega)
        rw [getElem!_pos d' i hi', getElem!_pos d' j hj'] at this
        simp only [ltOf, cf, decide_eq_false_iff_not] at this
        have e3 := cmpL_neg (c d'[j].1) (c d'[i].1)
        simp only [Function.comp_apply, Array.getElem_toList]
        omega

theorem equal_ok {w : World} {s t : Sl} {a b : List Int} (ha : R w s a) (hb : R w t b) :
    Calls Tryz.prog F.slices_Equal_sl_int_int #[s.v, t.v] w (Ret [.at .bool] fun (x : Bool) w' => x = decide (a = b) ∧ Ext w w') := by
  refine C_slices_Equal_sl_int_int ?_
  unfold V_slices_Equal_sl_int_int
  rw [ha.len, hb.len]
  refine cond_ne (fun hne => ⟨?_, Ext.refl _⟩) (fun heq => ?_)
  · have : a ≠ b := fun he => hne (by rw [he])
    simp [this]
  have hl : a.length = b.length := by have : ((a.length : Nat) : Int) = (b.length : Nat) := heq; omega
  refine ⟨IN a.length fun i w' => Ext w w' ∧ a.take i = b.take i, MN a.length, IN_zero ⟨Ext.refl _, by simp⟩, ?_⟩
  rintro _ w1 ⟨i, rfl, hi, hE1, hI⟩
  intros
  refine cond_dec (fun hlt => ?_) (fun hge => ?_)
  · have hi' : i < a.length := by omega
    have hi2 : i < b.length := by omega
    refine (ha.ext hE1).ixI hi' fun q _ hc => LD_int hc ?_
    refine (hb.ext hE1).ixI hi2 fun q _ hc => LD_int hc ?_
    intro w2 hE2
    refine cond_ne (fun hne => ⟨?_, hE1.trans hE2⟩) (fun heq2 => ?_)
    · have : a ≠ b := fun he => by subst he; exact hne rfl
      simp [this]
    · have he : a[i] = b[i] := heq2
      exact IN_next ha.le hi' ⟨hE1.trans hE2, by rw [List.take_succ_eq_append_getElem hi', List.take_succ_eq_append_getElem hi2, hI, he]⟩
  · have : i = a.length := by omega
    subst this
    rw [List.take_length, hl, List.take_length] at hI
    exact ⟨by simp [hI], hE1⟩

/-- Rows that lie apart, told by their slices. -/
def Apt (r q : Sl) : Prop := ∀ k, r.v.ownBlock = some k → q.v.ownBlock ≠ some k

theorem Apt.symm {r q : Sl} (h : Apt r q) : Apt q r := fun k hk hk' => h k hk' hk

structure RowsC (w : World) (base : Nat) (s : Sl) (ss : List Sl) (c : Sl → List Int) : Prop where
  own : OwnL w base T.t_sl_int s ss
  row : ∀ x ∈ ss, OwnL w base T.t_int x (c x)
  apart : ss.Pairwise Apt

theorem RowsC.of {w : World} {base : Nat} {s : Sl} {ss : List Sl} {L : List (List Int)} (h : RowsD w base T.t_int T.t_sl_int s L ss) : ∃ c, ss.map c = L ∧ RowsC w base s ss c := by
  have hl := h.len
  have hrow : ∀ i (h1 : i < ss.length) (h2 : i < L.length), OwnL w base T.t_int ss[i] L[i] := fun i h1 h2 => h.row i _ _ (by simp [h1]) (by simp [h2])
  have key : ∀ x : Sl, ∃ l : List Int, ∀ i (h1 : i < ss.length), ss[i] = x → l = L[i]'(by omega) := fun x => by
    by_cases hx : ∃ i, ∃ h1 : i < ss.length, ss[i] = x
    · obtain ⟨i, h1, rfl⟩ := hx
      refine ⟨L[i]'(by omega), fun j h2 he => ?_⟩
      have a1 := hrow i h1 (by omega)
      have a2 := hrow j h2 (by omega)
      rw [he] at a2
      exact own_fun a1 a2
    · exact ⟨[], fun i h1 he => absurd ⟨i, h1, he⟩ hx⟩
  obtain ⟨c, hc⟩ := Classical.axiomOfChoice key
  refine ⟨c, ?_, h.own, fun x hx => ?_, ?_⟩
  · apply List.ext_getElem (by simp [hl])
    intro i h1 h2
    rw [List.getElem_map]
    exact hc _ i (by simpa using h1) rfl
  · obtain ⟨i, hi, rfl⟩ := List.mem_iff_getElem.1 hx
    rw [hc _ i hi rfl]
    exact hrow i hi (by omega)
  · rw [List.pairwise_iff_getElem]
    intro i j hi hj hij k hk
    exact h.apart i j _ _ (by simp [hi]) (by simp [hj]) (by omega) k hk

theorem RowsC.to {w : World} {base : Nat} {s : Sl} {ss : List Sl} {c : Sl → List Int} (h : RowsC w base s ss c) : RowsD w base T.t_int T.t_sl_int s (ss.map c) ss := by
  refine ⟨h.own, by simp, fun i r l hr hl => ?_, fun i j r q hr hq hij k hk => ?_⟩
  · obtain ⟨hi, rfl⟩ := List.getElem?_eq_some_iff.1 hr
    obtain ⟨h2, rfl⟩ := List.getElem?_eq_some_iff.1 hl
    rw [List.getElem_map]
    exact h.row _ (List.getElem_mem hi)
  · obtain ⟨hi, rfl⟩ := List.getElem?_eq_some_iff.1 hr
    obtain ⟨hj, rfl⟩ := List.getElem?_eq_some_iff.1 hq
    rcases Nat.lt_or_gt_of_ne hij with h1 | h1
    · exact List.pairwise_iff_getElem.1 h.apart i j hi hj h1 k hk
    · exact (List.pairwise_iff_getElem.1 h.apart j i hj hi h1).symm k hk

theorem RowsC.off {w : World} {base : Nat} {s : Sl} {ss : List Sl} {c : Sl → List Int} (h : RowsC w base s ss c) {x : Sl} (hx : x ∈ ss) {b : Nat} (hb : oB x b) : ¬ oB s b := fun he => by
  obtain ⟨c1, e1⟩ := (h.row x hx).type hb
  obtain ⟨c2, e2⟩ := h.own.type he
  rw [e1] at e2
  exact absurd (Obj.cells.inj (Option.some.inj e2)).2.1 (by decide)

theorem RowsC.rd {w : World} {base : Nat} {s : Sl} {ss : List Sl} {c : Sl → List Int} (h : RowsC w base s ss c) (h64 : ∀ x ∈ ss, ∀ y ∈ c x, I64 y) {x : Sl} (hx : x ∈ ss) : SlR (fun b => ¬ oB s b) w x (c x) :=
  ((h.row x hx).repB (h64 x hx)).weak (fun b hb _ => h.off hx hb) RepP.pos

/-- The rows behind a change of the slice that holds them. -/
theorem RowsC.chg {w w' : World} {base : Nat} {s r : Sl} {ss tt : List Sl} {c : Sl → List Int} (h : RowsC w base s ss c) (hC : Chg w w' (oB s)) (hO : OwnL w' base T.t_sl_int r tt) (hm : ∀ x ∈ tt, x ∈ ss) (hap : tt.Pairwise Apt) : RowsC w' base r tt c :=
  ⟨hO, fun x hx => (h.row x (hm x hx)).chg hC fun b hb => h.off (hm x hx) hb, hap⟩

theorem sortedLists_ok {w : World} {base : Nat} {s : Sl} {L : List (List Int)} {ss : List Sl} (h : RowsD w base T.t_int T.t_sl_int s L ss) (h64 : ∀ r ∈ L, ∀ x ∈ r, I64 x) (hl : L.length ≤ 1048576) :
    Calls Tryz.prog F.i_sortedLists #[s.v] w (Ret [.at .sl] fun (r : Sl) w' => Chg w w' (oB s) ∧ ∃ A tt, RowsD w' base T.t_int T.t_sl_int r A tt ∧ A.Pairwise (fun a b => cmpL a b < 0) ∧ (∀ x, x ∈ A ↔ x ∈ L) ∧ A.length ≤ L.length) := by
  obtain ⟨c, hcL, hR⟩ := RowsC.of h
  have hlen := h.len
  have h64' : ∀ x ∈ ss, ∀ y ∈ c x, I64 y := fun x hx y hy => h64 (c x) (by rw [← hcL]; exact List.mem_map.2 ⟨x, hx, rfl⟩) y hy
  refine C_i_sortedLists ?_
  unfold V_i_sortedLists
  refine call (sortRows_ok h.own (by omega) fun x hx => hR.rd h64' hx) ?_
  rintro w1 ⟨tt, hO1, hp, hs, hst⟩
  have hC1 : Chg w w1 (oB s) := .of_step hst fun k hk => hk
  have hR1 : RowsC w1 base s tt c := hR.chg hC1 hO1 (fun x hx => hp.mem_iff.1 hx) (hp.symm.pairwise hR.apart fun h => h.symm)
  have htl : tt.length = ss.length := hp.length_eq
  have h641 : ∀ x ∈ tt, ∀ y ∈ c x, I64 y := fun x hx => h64' x (hp.mem_iff.1 hx)
  refine call (compactFuncS_ok (c := c) hO1 (by omega) fun x hx y hy w' hC => ?_) ?_
  · refine CALLV_mk (by kernel_rfl) ?_
    exact equal_ok ((hR1.rd h641 hx).chg hC fun b hb _ => hb).any ((hR1.rd h641 hy).chg hC fun b hb _ => hb).any
  · rintro r w2 ⟨hC2, hO2, hra⟩
    have hsub := compS_sub c tt (b := tt.length) (Nat.le_refl _)
    rw [List.take_length] at hsub
    have hR2 : RowsC w2 base r (compS c tt tt.length) c := hR1.chg hC2 hO2 (fun x hx => hsub.subset hx) (hR1.apart.sublist hsub)
    refine ⟨hC1.trans hC2, _, _, hR2.to, compS_rise hs (Nat.le_refl _), fun x => ?_, ?_⟩
    · rw [compS_mem (Nat.le_refl _), List.take_length, ← hcL]
      exact (hp.map c).mem_iff
    · rw [List.length_map]
      have := hsub.length_le
      omega

end Go.Proofs.YtndebacmnpghkaaGreat
end

section
/- Problems: their configurations looked up, what is asked of them, both sides. -/
namespace Go.Proofs.YtndebacmnpghkaaGreat
open Go.GX Go.RowKit
set_option maxRecDepth 100000

/-! ### Looking up -/

theorem mid_nat {a b : Nat} (h : a + b ≤ 9000000000000000000) : IntKind.i64.wrap (shrI .u64 (IntKind.u64.wrap (IntKind.i64.wrap ((a : Int) + (b : Int)))) 1) = (((a + b) / 2 : Nat) : Int) := by
  rw [wrap_of (n := (a : Int) + (b : Int)) (by omega) (by omega), show (a : Int) + (b : Int) = ((a + b : Nat) : Int) by omega, wrap_u64 (by omega) (by omega)]
  have h1 := shr_nat .u64 (a + b) 1 (by decide)
  have e : shrI .u64 ((a + b : Nat) : Int) 1 = (((a + b) / 2 : Nat) : Int) := by simpa using h1
  rw [e, wrap_of (by omega) (by omega)]

theorem search_at {w : World} {s t : Sl} {L : List (List Int)} {T0 : List Int} (h : R w s L) (ht : R w t T0) (hr : ∀ j i (_ : i < j) (hj : j < L.length), cmpL (L[i]'(by omega)) L[j] < 0) (hl : L.length ≤ 1048576) :
    Calls Tryz.prog F.slices_BinarySearchFunc_sl_sl_int_sl_int_sl_int #[s.v, t.v, .func (.func F.slices_Compare_sl_int_int) #[] #[]] w (Ret [.at (.int .i64), .at .bool] fun (i : Int) (b : Bool) w' => b = decide (T0 ∈ L) ∧ (T0 ∈ L → ∃ k : Nat, i = k ∧ ∃ hk : k < L.length, L[k] = T0) ∧ w = w') := by
  refine C_slices_BinarySearchFunc_sl_sl_int_sl_int_sl_int ?_
  unfold V_slices_BinarySearchFunc_sl_sl_int_sl_int_sl_int
  rw [h.len]
  have hcmp : ∀ {s' : Sl} {a : List Int}, R w s' a → CALLV Tryz.prog (.func (.func F.slices_Compare_sl_int_int) #[] #[]) #[s'.v, t.v] w (Ret [.at (.int .i64)] fun (r : Int) w' => r = cmpL a T0 ∧ w = w') := fun hs => CALLV_mk (by kernel_rfl) (compare_ok hs ht)
  refine ⟨fun (i j : Int) w' => w = w' ∧ ∃ a b : Nat, i = a ∧ j = b ∧ a ≤ b ∧ b ≤ L.length ∧ (∀ k (hk : k < L.length), k < a → cmpL L[k] T0 < 0) ∧ ∀ k (hk : k < L.length), b ≤ k → 0 ≤ cmpL L[k] T0, fun i j _ => (j - i).toNat,
    ⟨rfl, 0, L.length, rfl, rfl, by omega, by omega, fun k hk h => by omega, fun k hk h => by omega⟩, ?_⟩
  rintro _ _ _ ⟨rfl, a, b, rfl, rfl, hab, hbl, h1, h2⟩
  intros
  refine cond_dec (fun hlt => ⟨by omega, ?_⟩) (fun hge => ?_)
  · rw [mid_nat (by omega)]
    generalize hm : (a + b) / 2 = m
    have hmL : m < L.length := by omega
    refine h.ixL hmL fun q s1 hR1 hc => LD_sl hc ?_
    refine callv (hcmp hR1.any) ?_
    rintro _ _ ⟨rfl, rfl⟩
    refine cond_dec (fun hneg => ?_) (fun hnn => ?_)
    · rw [wrap_of (n := (m : Int) + 1) (by omega) (by omega)]
      refine ⟨⟨rfl, m + 1, b, by omega, rfl, by omega, hbl, fun k hk hka => ?_, h2⟩, by simp only; omega⟩
      by_cases he : k = m
      · subst he; exact hneg
      · exact cmpL_trans (hr m k (by omega) hmL) hneg
    · refine ⟨⟨rfl, a, m, rfl, rfl, by omega, by omega, h1, fun k hk hmk => ?_⟩, by simp only; omega⟩
      by_cases he : k = m
      · subst he; omega
      · by_cases hc0 : cmpL L[k] T0 < 0
        · have := cmpL_trans (hr k m (by omega) hk) hc0
          omega
        · omega
  · have hab' : a = b := by omega
    subst hab'
    have hmem : ∀ (hk : a < L.length), T0 ∈ L ↔ cmpL L[a] T0 = 0 := fun hk => by
      constructor
      · intro hT
        obtain ⟨m, hm, hme⟩ := List.mem_iff_getElem.1 hT
        have hm0 : cmpL L[m] T0 = 0 := cmpL_zero.2 hme
        rcases Nat.lt_trichotomy m a with hlt | heq | hgt
        · have := h1 m hm hlt; omega
        · subst heq; exact hm0
        · have h3 := hr m a hgt hm
          have h4 := h2 a hk (Nat.le_refl _)
          rw [hme] at h3
          omega
      · intro hz
        rw [← cmpL_zero.1 hz]; exact List.getElem_mem hk
    refine cond_dec (fun hlt => ?_) (fun hge2 => ?_)
    · have hk : a < L.length := by omega
      refine h.ixL hk fun q s1 hR1 hc => LD_sl hc ?_
      refine callv (hcmp hR1.any) ?_
      rintro _ _ ⟨rfl, rfl⟩
      refine ⟨?_, fun hT => ⟨a, rfl, hk, cmpL_zero.1 ((hmem hk).1 hT)⟩, rfl⟩
      rw [Bool.eq_iff_iff, decide_eq_true_eq, hmem hk, beq_iff_eq]
    · have : ¬ T0 ∈ L := fun hT => by
        obtain ⟨m, hm, hme⟩ := List.mem_iff_getElem.1 hT
        have := h1 m hm (by omega)
        rw [hme, cmpL_zero.2 rfl] at this
        omega
      refine ⟨?_, fun hT => absurd hT this, rfl⟩
      simp [this]

theorem search_ok {w : World} {s t : Sl} {L : List (List Int)} {T0 : List Int} (h : R w s L) (ht : R w t T0) (hr : ∀ j i (_ : i < j) (hj : j < L.length), cmpL (L[i]'(by omega)) L[j] < 0) (hl : L.length ≤ 1048576) :
    Calls Tryz.prog F.slices_BinarySearchFunc_sl_sl_int_sl_int_sl_int #[s.v, t.v, .func (.func F.slices_Compare_sl_int_int) #[] #[]] w (Ret [.at (.int .i64), .at .bool] fun (_ : Int) (b : Bool) w' => b = decide (T0 ∈ L) ∧ w = w') := by
  refine call (search_at h ht hr hl) ?_
  rintro i b w' ⟨h1, _, h2⟩
  exact ⟨h1, h2⟩

theorem hasConfiguration_ok {w : World} {s t : Sl} {L : List (List Int)} {l : List Int} (h : R w s L) (ht : R w t l) (hr : ∀ j i (_ : i < j) (hj : j < L.length), cmpL (L[i]'(by omega)) L[j] < 0) (hl : L.length ≤ 1048576) (hll : l.length ≤ 1048576) :
    Calls Tryz.prog F.i_hasConfiguration #[s.v, t.v] w (Ret [.at .bool] fun (b : Bool) w' => b = decide (sortI l ∈ L) ∧ Ext w w') := by
  refine C_i_hasConfiguration ?_
  unfold V_i_hasConfiguration
  refine values_ok fun w1 hE1 hc1 => ?_
  refine call (sorted_ok hc1 (ht.ext hE1) hll) ?_
  rintro r w2 ⟨hE2, hO2⟩
  have hE := hE1.trans hE2
  refine call (search_ok (h.ext hE) (hO2.rep (sortI_I64 (flat_ok ht))).any hr hl) ?_
  rintro i b _ ⟨rfl, rfl⟩
  exact ⟨rfl, hE⟩

/-! ### The reference's looking up -/

theorem l1Same_ok {w : World} {s t : Sl} {a b : List Int} (ha : R w s a) (hb : R w t b) :
    Calls Tryz.prog F.s_l1Same #[s.v, t.v] w (Ret [.at .bool] fun (r : Bool) w' => r = decide (a = b) ∧ Ext w w') := by
  refine C_s_l1Same ?_
  unfold V_s_l1Same
  rw [ha.len, hb.len]
  refine cond_ne (fun hne => ⟨?_, Ext.refl _⟩) (fun heq => ?_)
  · have : a ≠ b := fun he => hne (by rw [he])
    simp [this]
  have hl : a.length = b.length := by have heq' : ((a.length : Nat) : Int) = (b.length : Nat) := heq; omega
  refine ⟨IN a.length fun i w' => Ext w w' ∧ ∀ u < i, a[u]? = b[u]?, MN a.length, IN_zero ⟨Ext.refl _, fun u hu => absurd hu (by omega)⟩, ?_⟩
  rintro _ w1 ⟨i, rfl, hi, hE, hI⟩
  intros
  refine cond_dec (fun hlt => ?_) (fun hge => ?_)
  · have hi' : i < a.length := by omega
    have hi2 : i < b.length := by omega
    refine (ha.ext hE).ixI hi' fun q _ hc => LD_int hc ?_
    refine (hb.ext hE).ixI hi2 fun q _ hc => LD_int hc ?_
    intro w2 hE2
    refine cond_ne (fun hne => ⟨?_, hE.trans hE2⟩) (fun heq => IN_next ha.le hi' ⟨hE.trans hE2, all_succ hI ?_⟩)
    · have : a ≠ b := fun he => by subst he; exact hne rfl
      simp [this]
    · have heq' : a[i] = b[i] := heq
      simp [hi', hi2, heq']
  · have : i = a.length := by omega
    subst this
    have : a = b := by
      apply List.ext_getElem?
      intro u
      by_cases hu : u < a.length
      · exact hI u hu
      · rw [List.getElem?_eq_none (by omega), List.getElem?_eq_none (by omega)]
    exact ⟨by simp [this], hE⟩

theorem prHas_ok {w : World} {s t : Sl} {L : List (List Int)} {l : List Int} (h : R w s L) (ht : R w t l) :
    Calls Tryz.prog F.s_prHas #[s.v, t.v] w (Ret [.at .bool] fun (b : Bool) w' => b = decide (l ∈ L) ∧ Ext w w') := by
  refine C_s_prHas ?_
  unfold V_s_prHas
  rw [h.len]
  refine ⟨IN L.length fun i w' => Ext w w' ∧ l ∉ L.take i, MN L.length, IN_zero ⟨Ext.refl _, by simp⟩, ?_⟩
  rintro _ w1 ⟨i, rfl, hi, hE, hI⟩
  intros
  refine cond_dec (fun hlt => ?_) (fun hge => ?_)
  · have hi' : i < L.length := by omega
    refine (h.ext hE).ixL hi' fun q s1 hR1 hc => LD_sl hc ?_
    refine call (l1Same_ok (ht.ext hE) hR1.any) ?_
    rintro _ w2 ⟨rfl, hE2⟩
    refine cond_dec (fun he => ⟨?_, hE.trans hE2⟩) (fun hne => IN_next h.le hi' ⟨hE.trans hE2, not_mem_take_succ hi' hI fun he => hne he.symm⟩)
    have : l ∈ L := by rw [he]; exact List.getElem_mem hi'
    simp [this]
  · have : i = L.length := by omega
    subst this
    rw [List.take_length] at hI
    exact ⟨by simp [hI], hE⟩

/-- Sorting by inserting. -/
theorem swap_perm {l : List Int} {k : Nat} (hk : k + 1 < l.length) : ((l.set (k + 1) l[k]).set k l[k + 1]).Perm l := by
  have hl : l = l.take k ++ l[k] :: l[k + 1] :: l.drop (k + 2) := by
    rw [← List.drop_eq_getElem_cons hk, ← List.drop_eq_getElem_cons (show k < l.length by omega), List.take_append_drop]
  have hlen : (l.take k).length = k := by simp; omega
  generalize l[k] = x at *
  generalize l[k + 1] = y at *
  generalize hA : l.take k = A at *
  generalize hB : l.drop (k + 2) = B at *
  rw [hl, List.set_append_right _ _ (by omega), hlen, show k + 1 - k = 1 by omega, List.set_cons_succ, List.set_cons_zero, List.set_append_right _ _ (by omega), hlen, Nat.sub_self, List.set_cons_zero]
  exact List.Perm.append_left _ (List.Perm.swap _ _ _)

def InsInv (M : List Int) (i k : Nat) : Prop := ∀ u v (_ : u < v) (hv : v < M.length), v ≤ i → v ≠ k → M[u]'(by omega) ≤ M[v]

theorem ins_swap {M : List Int} {i k : Nat} (hk : k + 1 < M.length) (hi : i < M.length) (hki : k + 1 ≤ i) (h : InsInv M i (k + 1)) (hgt : M[k] > M[k + 1]) : InsInv ((M.set (k + 1) M[k]).set k M[k + 1]) i k := by
  intro u v huv hv hvi hvk
  have hvM : v < M.length := by simpa using hv
  rw [List.getElem_set, List.getElem_set, List.getElem_set, List.getElem_set]
  by_cases h1 : k = u
  · subst h1
    rw [if_pos rfl, if_neg (by omega)]
    by_cases h2 : k + 1 = v
    · subst h2; rw [if_pos rfl]; omega
    · rw [if_neg h2]
      exact h (k + 1) v (by omega) hvM hvi (by omega)
  · rw [if_neg h1, if_neg (by omega : ¬ k = v)]
    by_cases h3 : k + 1 = u
    · subst h3
      rw [if_pos rfl, if_neg (by omega)]
      exact h k v (by omega) hvM hvi (by omega)
    · rw [if_neg h3]
      by_cases h2 : k + 1 = v
      · subst h2; rw [if_pos rfl]
        exact h u k (by omega) (by omega) (by omega) (by omega)
      · rw [if_neg h2]
        exact h u v huv hvM hvi (by omega)

theorem ins_done {M : List Int} {i k : Nat} (hi : i < M.length) (hki : k ≤ i) (h : InsInv M i k) (hle : k = 0 ∨ ∃ j, ∃ hj : j + 1 < M.length, k = j + 1 ∧ M[j] ≤ M[j + 1]) : InsInv M i (i + 1) := by
  intro u v huv hv hvi _
  by_cases hvk : v = k
  · subst hvk
    rcases hle with h0 | ⟨j, hj, rfl, hjl⟩
    · omega
    · rcases Nat.lt_or_eq_of_le (Nat.le_of_lt_succ huv) with h1 | h1
      · exact Int.le_trans (h u j h1 (by omega) (by omega) (by omega)) hjl
      · subst h1; exact hjl
  · exact h u v huv hv hvi hvk

theorem prSorted_ok {w : World} {s : Sl} {l : List Int} (h : R w s l) (hl : l.length ≤ 1048576) :
    Calls Tryz.prog F.s_prSorted #[s.v] w (Ret [.at .sl] fun (r : Sl) w' => Ext w w' ∧ OwnL w' w.heap.size T.t_int r (sortI l)) := by
  refine C_s_prSorted ?_
  unfold V_s_prSorted
  refine call (l1Own_ok h hl) ?_
  rintro r w1 ⟨hE1, hO1⟩
  have hok := flat_ok h
  rw [hO1.1]
  refine ⟨IN l.length fun i w' => Ext w w' ∧ ∃ M : List Int, OwnL w' w.heap.size T.t_int r M ∧ M.Perm l ∧ InsInv M i i, MN l.length, IN_zero ⟨hE1, l, hO1, List.Perm.refl _, fun u v huv hv hvi hne => absurd hvi (by omega)⟩, ?_⟩
  rintro _ w2 ⟨i, rfl, hi, hE2, M, hO2, hp2, hI2⟩
  intros
  refine cond_dec (fun hlt => ?_) (fun hge => ?_)
  rotate_left
  · have hil : i = l.length := by omega
    subst hil
    have hsort : M.Pairwise (· ≤ ·) := List.pairwise_iff_getElem.2 fun u v hu hv huv => hI2 u v huv hv (by have := hp2.length_eq; omega) (by have := hp2.length_eq; omega)
    have he : M = sortI l := (hp2.trans (sortI_perm l).symm).eq_of_pairwise (fun a b _ _ h1 h2 => Int.le_antisymm h1 h2) hsort (sortI_sorted l)
    rw [he] at hO2
    exact ⟨hE2, hO2⟩
  have hi' : i < l.length := by omega
  refine ⟨fun (k : Int) w' => ∃ j : Nat, k = j ∧ j ≤ i ∧ Ext w w' ∧ ∃ M : List Int, OwnL w' w.heap.size T.t_int r M ∧ M.Perm l ∧ InsInv M i j, fun k _ => k.toNat, ⟨i, rfl, Nat.le_refl _, hE2, M, hO2, hp2, hI2⟩, ?_⟩
  rintro _ w3 ⟨j, rfl, hj, hE3, M3, hO3, hp3, hI3⟩
  intros
  have hlen3 := hp3.length_eq
  have hnext : ∀ w', Ext w3 w' → InsInv M3 i (i + 1) → IN l.length (fun i w' => Ext w w' ∧ ∃ M : List Int, OwnL w' w.heap.size T.t_int r M ∧ M.Perm l ∧ InsInv M i i) (IntKind.i64.wrap ((i : Int) + 1)) w' ∧ MN l.length (IntKind.i64.wrap ((i : Int) + 1)) w' < MN l.length (i : Int) w2 := fun w' hE' hI' => by
    refine IN_next (by omega) hi' ⟨hE3.trans hE', M3, hO3.ext hE', hp3, fun u v huv hv hvi hne => hI' u v huv hv (by omega) (by omega)⟩
  refine cond_dec (fun hpos => ?_) (fun hnp => fun w5 hE5 => ?_)
  rotate_left
  · have : j = 0 := by omega
    subst this
    exact hnext w5 hE5 (ins_done (by omega) (by omega) hI3 (.inl rfl))
  obtain ⟨m, rfl⟩ : ∃ m, j = m + 1 := ⟨j - 1, by omega⟩
  have hm1 : m + 1 < M3.length := by omega
  have hok3 : ∀ x ∈ M3, I64 x := fun x hx => hok x (hp3.mem_iff.1 hx)
  rw [show ((m + 1 : Nat) : Int) - 1 = (m : Int) by omega, wrap_of (n := (m : Int)) (by omega) (by omega)]
  have hR3 := (hO3.rep hok3).any
  refine hR3.ixI (i := m) (by omega) fun q _ hc => LD_int hc ?_
  refine hR3.ixI hm1 fun q _ hc => LD_int hc ?_
  intro w4 hE4
  refine cond_dec (fun hgt => ?_) (fun hng => ?_)
  · have hO4 := hO3.ext hE4
    have hR4 := hR3.ext hE4
    refine hR4.ixI hm1 fun q _ hc => LD_int hc ?_
    refine hR4.ixI (i := m) (by omega) fun q _ hc => LD_int hc ?_
    refine IX_own hO4 hm1 rfl fun q hq => ?_
    refine ST_own hO4 hm1 hq M3[m] rfl fun w8 hO8 hs8 => ?_
    refine IX_own hO8 (i := m) (by simp; omega) rfl fun q2 hq2 => ?_
    refine ST_own hO8 (by simp; omega) hq2 M3[m + 1] rfl fun w9 hO9 hs9 => ?_
    have hEw := hE3.trans hE4
    have hE8 := hs8.ext0 hEw (fun k hk => (hO4.blk k hk).1)
    have hE9 := hs9.ext0 hE8 (fun k hk => (hO8.blk k hk).1)
    exact ⟨⟨m, rfl, by omega, hE9, _, hO9, (swap_perm hm1).trans hp3, ins_swap hm1 (by omega) (by omega) hI3 hgt⟩, by simp only; omega⟩
  · exact hnext w4 hE4 (ins_done (by omega) hj hI3 (.inr ⟨m, hm1, rfl, by omega⟩))

end Go.Proofs.YtndebacmnpghkaaGreat
end

section
/- Arguments that come in, read as data: from the statements' own reading of memory to the rules' reading. No program is named here. -/
namespace Go.GX
open Go.RowKit Go.WideShapes Go.ChangeShapes Go.ChangeAt Go.Deep

/-- Whatever the statements read at type t is data of α in memory. -/
def Reads (P : Program) (t : TypeId) (α : Type) [Rep α] : Prop :=
  ∀ {H : Type} {enc : TypeId × Value → H} {w : World} {base : Nat} {spare : Nat → Bool} {held : Bool} {fuel : Nat} {cs : List Value} {x : DataW H × List MemPlace},
    DataW.trod enc P w base spare held fuel t cs = some x → ∃ a : α, Rep.rep (fun _ => True) w cs a

theorem Reads.int {P : Program} {t : TypeId} (ht : P.underlying t = some (.int .i64)) : Reads P t Int := fun h => by
  obtain ⟨n, rfl, _, hn⟩ := DataW.trod_int ht h
  exact ⟨n, rfl, bounds_i64 hn⟩

theorem Reads.slice {P : Program} {t e : TypeId} {α : Type} [RepP α] (ht : P.underlying t = some (.slice e)) (hc : P.cellsOf e = Rep.sz α) (he : Reads P e α) : Reads P t (List α) := by
  intro H enc w base spare held fuel cs x h
  rcases open_slice ht h with ⟨rfl, _⟩ | ⟨a, len, cap, m, n, D, Pl, rfl, hb, hl, hm, hmm, _, hx⟩
  · exact ⟨[], ⟨none, 0, 0⟩, rfl, rfl, ⟨Nat.le_refl _, Nat.zero_le _⟩, fun i x hx => by simp at hx⟩
  · have hlm : len ≤ m := by rw [hmm]; split <;> omega
    have hall : ∀ i : Fin len, ∃ z : α, ∃ cs', Rep.rep (fun _ => True) w cs' z ∧ ∀ j v, cs'[j]? = some v → w.cell? (a.add (i.1 * Rep.sz α + j)) = some v := fun i => by
      obtain ⟨cs', h1, h2⟩ := hx i.1 (by omega)
      obtain ⟨z, hz⟩ := he h2
      refine ⟨z, cs', hz, fun j v hj => ?_⟩
      obtain ⟨_, hlen, hcell⟩ := World.cells?_some h1
      have hj' : j < cs'.length := (List.getElem?_eq_some_iff.1 hj).1
      have := hcell j (by omega)
      rw [hj, add_add, hc] at this
      exact this
    refine ⟨List.ofFn fun i => (hall i).choose, ⟨some a, len, cap⟩, rfl, by simp, ⟨hl, by simpa [maxLen] using hm⟩, fun i x hx => ?_⟩
    rw [List.getElem?_ofFn] at hx
    split at hx
    · rename_i hi
      simp at hx
      subst hx
      obtain ⟨cs', h1, h2⟩ := (hall ⟨i, hi⟩).choose_spec
      exact ⟨a, cs', rfl, trivial, h1, h2⟩
    · cases hx

/-- A struct type whose fields have these types, each one cell, one after the other. -/
def fieldsB (P : Program) (t : TypeId) (ts : List TypeId) : Bool :=
  (match P.underlying t with | some (.struct fs) => fs.toList.map (fun f => (f.type, f.offset)) == ts.zipIdx | _ => false) && ts.all (fun u => P.cellsOf u == 1) && P.cellsOf t == ts.length

theorem fieldsB_struct {P : Program} {t : TypeId} {ts : List TypeId} (h : fieldsB P t ts = true) :
    ∃ fs, P.underlying t = some (.struct fs) ∧ fs.toList.map (fun f => (f.type, f.offset)) = ts.zipIdx ∧ (∀ u ∈ ts, P.cellsOf u = 1) ∧ P.cellsOf t = ts.length := by
  simp only [fieldsB, Bool.and_eq_true, List.all_eq_true, beq_iff_eq] at h
  obtain ⟨⟨h1, h2⟩, h3⟩ := h
  cases hu : P.underlying t with
  | none => rw [hu] at h1; cases h1
  | some u =>
    rw [hu] at h1
    cases u with
    | struct fs => exact ⟨fs, rfl, by simpa using h1, h2, h3⟩
    | _ => cases h1

theorem trod_fields {P : Program} {t : TypeId} {ts : List TypeId} (h : fieldsB P t ts = true) {H : Type} {enc : TypeId × Value → H} {w : World} {base : Nat} {spare : Nat → Bool} {held : Bool} {fuel : Nat} {cs : List Value} {x : DataW H × List MemPlace}
    (hx : DataW.trod enc P w base spare held fuel t cs = some x) : cs.length = ts.length ∧ ∀ (i : Nat) (u : TypeId), ts[i]? = some u → ∃ v n y, cs[i]? = some v ∧ DataW.trod enc P w base spare held n u [v] = some y := by
  obtain ⟨fs, hu, hm, h1, hc⟩ := fieldsB_struct h
  obtain ⟨xs, n, _, _, hl, hlen, hf⟩ := DataW.trod_struct hu hx
  refine ⟨hl.trans hc, fun i u hi => ?_⟩
  have hi' : i < ts.length := (List.getElem?_eq_some_iff.1 hi).1
  have hfl : fs.size = ts.length := by have := congrArg List.length hm; simpa using this
  have hg : (fs.toList.map (fun f => (f.type, f.offset)))[i]? = some (u, i) := by rw [hm]; simp [List.getElem?_zipIdx, hi]
  have hif : i < fs.size := by omega
  have hfi : fs[i]? = some fs[i] := by simp [hif]
  rw [List.getElem?_map] at hg
  simp [hif] at hg
  have := hf i fs[i] hfi
  have hci : i < cs.length := by omega
  rw [hg.1, hg.2, h1 u (List.mem_of_getElem? hi), List.drop_eq_getElem_cons hci, List.take_succ_cons, List.take_zero] at this
  refine ⟨cs[i], n, xs[i]'(by omega), by simp [hci], ?_⟩
  rw [this]; simp

theorem Reads.pair {P : Program} {t u0 u1 : TypeId} (hf : fieldsB P t [u0, u1] = true) (h0 : Reads P u0 Int) (h1 : Reads P u1 Int) : Reads P t (Int × Int) := fun h => by
  obtain ⟨hl, hx⟩ := trod_fields hf h
  obtain ⟨v0, n0, y0, hv0, ht0⟩ := hx 0 u0 rfl
  obtain ⟨v1, n1, y1, hv1, ht1⟩ := hx 1 u1 rfl
  obtain ⟨a, ha, hA⟩ := h0 ht0
  obtain ⟨b, hb, hB⟩ := h1 ht1
  simp only [List.cons.injEq, and_true] at ha hb
  subst ha; subst hb
  refine ⟨(a, b), ?_, hA, hB⟩
  apply List.ext_getElem?
  intro i
  match i with
  | 0 => simpa using hv0
  | 1 => simpa using hv1
  | i + 2 => simp at hl; simp [hl]

/-- An argument that is a struct of three slices. -/
theorem open_three {P : Program} {t u0 u1 u2 : TypeId} {α β γ : Type} [RepP α] [RepP β] [RepP γ] (hf : fieldsB P t [u0, u1, u2] = true) (h0 : Reads P u0 (List α)) (h1 : Reads P u1 (List β)) (h2 : Reads P u2 (List γ))
    {H : Type} {enc : TypeId × Value → H} {w : World} {base b0 : Nat} {spare : Nat → Bool} {held : Bool} {r : Reach} {v : Value} {d : DataW H} {p : List MemPlace}
    (hv : Value.okWide P w r b0 t v) (h : DataW.Trod enc P w base spare held t v d p) : ∃ (a b c : Sl) (x : List α) (y : List β) (z : List γ), v = .agg #[a.v, b.v, c.v] ∧ R w a x ∧ R w b y ∧ R w c z := by
  obtain ⟨fs, hu, _⟩ := fieldsB_struct hf
  obtain ⟨cs, rfl, _⟩ := okWide_struct hu hv
  obtain ⟨fuel, hx⟩ := h
  obtain ⟨hl, hx⟩ := trod_fields hf hx
  obtain ⟨v0, n0, y0, hv0, ht0⟩ := hx 0 u0 rfl
  obtain ⟨v1, n1, y1, hv1, ht1⟩ := hx 1 u1 rfl
  obtain ⟨v2, n2, y2, hv2, ht2⟩ := hx 2 u2 rfl
  obtain ⟨x, a, ha, hA⟩ := h0 ht0
  obtain ⟨y, b, hb, hB⟩ := h1 ht1
  obtain ⟨z, c, hc, hC⟩ := h2 ht2
  simp only [List.cons.injEq, and_true] at ha hb hc
  subst ha; subst hb; subst hc
  refine ⟨a, b, c, x, y, z, ?_, hA, hB, hC⟩
  congr 1
  apply Array.ext'
  apply List.ext_getElem?
  intro i
  match i with
  | 0 => simpa [Value.cells] using hv0
  | 1 => simpa [Value.cells] using hv1
  | 2 => simpa [Value.cells] using hv2
  | i + 3 => simp [Value.cells] at hl; simp [hl]

theorem open_problem {P : Program} {t u0 u1 u2 u3 : TypeId} {α β : Type} [RepP α] [RepP β] (hf : fieldsB P t [u0, u1, u2, u3] = true) (h0 : Reads P u0 Int) (h1 : Reads P u1 Int) (h2 : Reads P u2 (List α)) (h3 : Reads P u3 (List β))
    {H : Type} {enc : TypeId × Value → H} {w : World} {base b0 : Nat} {spare : Nat → Bool} {held : Bool} {r : Reach} {v : Value} {d : DataW H} {p : List MemPlace}
    (hv : Value.okWide P w r b0 t v) (h : DataW.Trod enc P w base spare held t v d p) : ∃ (a b : Int) (c e : Sl) (y : List α) (z : List β), v = .agg #[.int .i64 a, .int .i64 b, c.v, e.v] ∧ I64 a ∧ I64 b ∧ R w c y ∧ R w e z := by
  obtain ⟨fs, hu, _⟩ := fieldsB_struct hf
  obtain ⟨cs, rfl, _⟩ := okWide_struct hu hv
  obtain ⟨fuel, hx⟩ := h
  obtain ⟨hl, hx⟩ := trod_fields hf hx
  obtain ⟨v0, n0, y0, hv0, ht0⟩ := hx 0 u0 rfl
  obtain ⟨v1, n1, y1, hv1, ht1⟩ := hx 1 u1 rfl
  obtain ⟨v2, n2, y2, hv2, ht2⟩ := hx 2 u2 rfl
  obtain ⟨v3, n3, y3, hv3, ht3⟩ := hx 3 u3 rfl
  obtain ⟨a, ha, hA⟩ := h0 ht0
  obtain ⟨b, hb, hB⟩ := h1 ht1
  obtain ⟨y, c, hc, hC⟩ := h2 ht2
  obtain ⟨z, e, he, hE⟩ := h3 ht3
  simp only [List.cons.injEq, and_true] at ha hb hc he
  subst ha; subst hb; subst hc; subst he
  refine ⟨a, b, c, e, y, z, ?_, hA, hB, hC, hE⟩
  congr 1
  apply Array.ext'
  apply List.ext_getElem?
  intro i
  match i with
  | 0 => simpa [Value.cells] using hv0
  | 1 => simpa [Value.cells] using hv1
  | 2 => simpa [Value.cells] using hv2
  | 3 => simpa [Value.cells] using hv3
  | i + 4 => simp [Value.cells] at hl; simp [hl]

/-- Arguments read again behind a call that wrote nothing of theirs. -/
theorem trodAll_stays {P : Program} (hl : laidOutB P = true) {H : Type} {enc : TypeId × Value → H} {W W' : World} (hb : Below W.heap.size W W') : ∀ (ts : List TypeId) (vs : List Value) (ds : List (DataW H)) (p : List MemPlace),
    (ts.all fun t => P.readableRec t && decide (t < P.types.size)) = true → DataW.TrodAll enc P W 0 (fun _ => true) true ts vs ds p → DataW.TrodAll enc P W' 0 (fun b => decide (b < W.heap.size)) true ts vs ds p
  | [], vs, ds, p, _, h => by
    obtain ⟨rfl, rfl, rfl⟩ := trodAll_nil h
    exact trodAll_mk0
  | t :: ts, vs, ds, p, ha, h => by
    simp only [List.all_cons, Bool.and_eq_true, decide_eq_true_eq] at ha
    obtain ⟨v, vs', d, ds', p', q', rfl, rfl, rfl, h1, h2⟩ := trodAll_cons h
    refine trodAll_cons_mk (Below.trod hl ha.1.1 ha.1.2 h1 hb ?_) (trodAll_stays hl hb ts vs' ds' q' ha.2 h2)
    obtain ⟨m, hm⟩ := h1
    exact DataW.trod_lt m _ _ _ hm

end Go.GX
end

section
/- The laws' arguments read as data: the types of this program. -/
namespace Go.Proofs.YtndebacmnpghkaaGreat
open Go.GX Go.RowKit
set_option maxRecDepth 100000

theorem laidOut : laidOutB Tryz.prog = true := by kernel_rfl

theorem reads_int : Reads Tryz.prog T.t_int Int := Reads.int (by kernel_rfl)
theorem reads_ints : Reads Tryz.prog T.t_sl_int (List Int) := Reads.slice (e := T.t_int) (by kernel_rfl) (by kernel_rfl) reads_int
theorem reads_end : Reads Tryz.prog T.t_l_End (Int × Int) := Reads.pair (u0 := T.t_int) (u1 := T.t_int) (by kernel_rfl) reads_int reads_int
theorem reads_ends : Reads Tryz.prog T.t_sl_l_End (List (Int × Int)) := Reads.slice (e := T.t_l_End) (by kernel_rfl) (by kernel_rfl) reads_end
theorem reads_endss : Reads Tryz.prog T.t_sl_sl_l_End (List (List (Int × Int))) := Reads.slice (e := T.t_sl_l_End) (by kernel_rfl) (by kernel_rfl) reads_ends

variable {H : Type} {enc : TypeId × Value → H} {w : World} {base b0 : Nat} {spare : Nat → Bool} {held : Bool} {r : Reach} {v : Value} {d : DataW H} {p : List MemPlace}

theorem open_I (hv : Value.okWide Tryz.prog w r b0 T.t_int v) (h : DataW.Trod enc Tryz.prog w base spare held T.t_int v d p) : ∃ n, v = .int .i64 n ∧ I64 n := by
  obtain ⟨n, rfl, _, _, hn⟩ := ChangeShapes.open_int (k := .i64) (by kernel_rfl) hv h
  exact ⟨n, rfl, bounds_i64 hn⟩

theorem reads_intss : Reads Tryz.prog T.t_sl_sl_int (List (List Int)) := Reads.slice (e := T.t_sl_int) (by kernel_rfl) (by kernel_rfl) reads_ints

theorem open_N (hv : Value.okWide Tryz.prog w r b0 T.t_l_Network v) (h : DataW.Trod enc Tryz.prog w base spare held T.t_l_Network v d p) : ∃ (a b c : Sl) (n : Net), v = .agg #[a.v, b.v, c.v] ∧ RNet w a b c n := by
  obtain ⟨a, b, c, x, y, z, rfl, h1, h2, h3⟩ := open_three (u0 := T.t_sl_sl_l_End) (u1 := T.t_sl_int) (u2 := T.t_sl_int) (by kernel_rfl) reads_endss reads_ints reads_ints hv h
  exact ⟨a, b, c, ⟨x, y, z⟩, rfl, h1, h2, h3⟩

end Go.Proofs.YtndebacmnpghkaaGreat
end

section
/- The least number that is free, and the rounds that drop a colour: DropColour, both sides. -/
namespace Go.Proofs.YtndebacmnpghkaaGreat
open Go.GX Go.RowKit
set_option maxRecDepth 100000

/-- The least number that is not in a list. -/
def mex (l : List Int) : Nat := ((List.range (l.length + 1)).find? fun (u : Nat) => !l.contains (u : Int)).getD 0

theorem mex_le (l : List Int) : mex l ≤ l.length := by
  unfold mex
  cases h : (List.range (l.length + 1)).find? (fun (u : Nat) => !l.contains (u : Int)) with
  | none => simp
  | some c => have := List.mem_of_find?_eq_some h; simp at this; simp; omega

theorem coThrough_ok {w : World} {s t : Sl} {l m : List Int} (hl : R w s l) (hm : R w t m) (hin : ∀ x ∈ m, ∃ u : Nat, x = u ∧ u < l.length) (hml : m.length ≤ 1048576) :
    Calls Tryz.prog F.s_coThrough #[s.v, t.v] w (Ret [.at .sl] fun (r : Sl) w' => Ext w w' ∧ OwnL w' w.heap.size T.t_int r (m.map fun u => l.getD u.toNat 0)) := by
  refine C_s_coThrough ?_
  unfold V_s_coThrough
  rw [hm.len]
  refine ⟨IN2 m.length fun i out w' => Ext w w' ∧ OwnL w' w.heap.size T.t_int out ((m.take i).map fun u => l.getD u.toNat 0), MN2 m.length, IN2_zero ⟨Ext.refl _, by simpa using OwnL.nil _ _ _⟩, ?_⟩
  rintro out _ w2 ⟨i, rfl, hi, hE, hO⟩
  intros
  replace hl := hl.ext hE
  replace hm := hm.ext hE
  refine cond_dec (fun hlt => ?_) (fun hge => ?_)
  · have hi' : i < m.length := by omega
    refine hm.ixI hi' fun q _ hc => LD_int hc ?_
    obtain ⟨u, hu, hul⟩ := hin _ (List.getElem_mem hi')
    rw [hu]
    refine hl.ixI hul fun q h64 hc => LD_int hc ?_
    refine RUN_lit1 (α := Int) slt_int l[u] rfl (by decide) fun r w5 hE5 hO5 => ?_
    replace hE := hE.ext hE5
    replace hO := hO.ext hE5
    refine RUN_append (α := Int) slt_int hO hE.size_le (hO5.rep (by intro z hz; simp at hz; subst hz; exact h64)).any (by simp; omega) (by simp [maxLen]; omega) fun r' w6 hO6 hs6 => ?_
    refine IN2_next hm.le hi' ⟨hs6.ext0 hE (fun k hk => (hO.blk k hk).1), ?_⟩
    rw [map_take_succ hi', hu]
    simpa [hul] using hO6
  · have : i = m.length := by omega
    subst this
    exact ⟨hE, by simpa using hO⟩

theorem near_len {n : Net} (hg : Good n) (l : List Int) {v : Nat} (hv : v < n.ends.length) : (nearOf n.ends l v).length ≤ 6 := by
  rw [near_adj, List.length_map, adj_len hg hv]; exact hg.deg hv

/-! ### Dropping -/

def dropAt (E : Ends) (l : List Int) (c : Int) (v : Nat) : Int := if l.getD v 0 = c then mex (nearOf E l v) else l.getD v 0
def dropOf (E : Ends) (l : List Int) (c : Int) : List Int := (List.range l.length).map (dropAt E l c)

theorem dropOf_len (E : Ends) (l : List Int) (c : Int) : (dropOf E l c).length = l.length := by simp [dropOf]

theorem dropAt_I64 {n : Net} (hg : Good n) {l : List Int} (hl : ∀ x ∈ l, I64 x) (hlen : l.length = n.ends.length) (c : Int) : ∀ v < l.length, I64 (dropAt n.ends l c v) := by
  intro v hv
  unfold dropAt
  split
  · have := mex_le (nearOf n.ends l v)
    have := near_len hg l (v := v) (by omega)
    unfold I64; omega
  · simp [hv]; exact hl _ (List.getElem_mem hv)

theorem dropOf_I64 {n : Net} (hg : Good n) {l : List Int} (hl : ∀ x ∈ l, I64 x) (hlen : l.length = n.ends.length) (c : Int) : ∀ x ∈ dropOf n.ends l c, I64 x := by
  intro x hx
  obtain ⟨v, hv, rfl⟩ := List.mem_map.1 hx
  exact dropAt_I64 hg hl hlen c v (by simpa using hv)

structure DropAsked (n : Net) (l : List Int) (c : Int) : Prop where
  good : Good n
  proper : Proper n l
  whole : inR c 0 1000000000000 = true

end Go.Proofs.YtndebacmnpghkaaGreat
end

section
/- Degrees, greatest numbers, palettes; GreedyReduce, both sides. -/
namespace Go.Proofs.YtndebacmnpghkaaGreat
open Go.GX Go.RowKit
set_option maxRecDepth 100000

/-! ### The greatest number -/

def most2 (a b : Int) : Int := if a > b then a else b
def mostOf (l : List Int) : Int := l.foldl most2 0

theorem mostOf_spec (l : List Int) : 0 ≤ mostOf l ∧ (∀ x ∈ l, x ≤ mostOf l) ∧ (mostOf l = 0 ∨ mostOf l ∈ l) := by
  unfold mostOf
  have : ∀ (l : List Int) (m : Int), 0 ≤ m → 0 ≤ l.foldl most2 m ∧ m ≤ l.foldl most2 m ∧ (∀ x ∈ l, x ≤ l.foldl most2 m) ∧ (l.foldl most2 m = m ∨ l.foldl most2 m ∈ l) := by
    intro l
    induction l with
    | nil => intro m hm; simp; exact hm
    | cons y r ih =>
      intro m hm
      have hy : m ≤ most2 m y ∧ y ≤ most2 m y ∧ (most2 m y = m ∨ most2 m y = y) := by
        unfold most2; split <;> omega
      obtain ⟨h1, h2, h3, h4⟩ := ih (most2 m y) (by omega)
      rw [List.foldl_cons]
      refine ⟨h1, by omega, fun x hx => ?_, ?_⟩
      · rcases List.mem_cons.1 hx with rfl | hx
        · omega
        · exact h3 x hx
      · rcases h4 with h4 | h4
        · rcases hy.2.2 with h5 | h5
          · left; rw [h4, h5]
          · right; rw [h4, h5]; simp
        · right; exact List.mem_cons_of_mem _ h4
  obtain ⟨h1, _, h3, h4⟩ := this l 0 (by omega)
  exact ⟨h1, h3, h4⟩

theorem l1Most_ok (a b : Int) (w : World) : Calls Tryz.prog F.s_l1Most #[.int .i64 a, .int .i64 b] w (Ret [.at (.int .i64)] fun (r : Int) w' => r = most2 a b ∧ w = w') := by
  refine C_s_l1Most ?_
  unfold V_s_l1Most most2
  exact cond_dec (fun h => ⟨by rw [if_pos h], rfl⟩) (fun h => ⟨by rw [if_neg h], rfl⟩)

/-! ### Degrees -/

def degsOf (E : Ends) : List Int := E.map fun r => (r.length : Int)

/-! ### What is asked -/

structure PalAsked (n : Net) (l : List Int) (k a : Int) : Prop where
  good : Good n
  pal : 1 ≤ k ∧ k ≤ 1000000000000
  bound : 0 ≤ a ∧ a ≤ 6
  proper : Proper n l
  all : AllIn l 0 (k - 1)
  degs : mostOf (degsOf n.ends) ≤ a

theorem PalAsked.deg {n : Net} {l : List Int} {k a : Int} (h : PalAsked n l k a) {v : Nat} (hv : v < n.ends.length) : (n.ends[v].length : Int) ≤ a := by
  have := (mostOf_spec (degsOf n.ends)).2.1 (n.ends[v].length : Int) (List.mem_map.2 ⟨_, List.getElem_mem hv, rfl⟩)
  have := h.degs
  omega

/-! ### Dropping the greatest colours -/

/-- What a list of colours must be for the rounds. -/
structure ColsOk (n : Net) (a : Int) (l : List Int) : Prop where
  good : Good n
  len : l.length = n.ends.length
  nn : ∀ x ∈ l, 0 ≤ x
  i64 : ∀ x ∈ l, I64 x
  deg : ∀ v, (hv : v < n.ends.length) → (n.ends[v].length : Int) ≤ a

theorem dropOf_mem {n : Net} {a : Int} {l : List Int} (h : ColsOk n a l) {c : Int} : ∀ x ∈ dropOf n.ends l c, (0 ≤ x ∧ x ≤ a) ∨ (x ∈ l ∧ x ≠ c) := fun x hx => by
  obtain ⟨v, hv, rfl⟩ := List.mem_map.1 hx
  have hv' : v < l.length := by simpa using hv
  have hve : v < n.ends.length := by rw [← h.len]; exact hv'
  unfold dropAt
  split
  · left
    have h1 := mex_le (nearOf n.ends l v)
    have h2 : (nearOf n.ends l v).length = n.ends[v].length := by rw [near_adj, List.length_map, adj_len h.good hve]
    have := h.deg v hve
    omega
  · rename_i hne
    right
    simp [hv'] at hne ⊢
    exact hne

theorem ColsOk.drop {n : Net} {a : Int} {l : List Int} (h : ColsOk n a l) (c : Int) : ColsOk n a (dropOf n.ends l c) :=
  ⟨h.good, by rw [dropOf_len]; exact h.len, fun x hx => by
    rcases dropOf_mem h x hx with h1 | h1
    · exact h1.1
    · exact h.nn x h1.1, dropOf_I64 h.good h.i64 h.len c, h.deg⟩

theorem PalAsked.cols {n : Net} {l : List Int} {k a : Int} (h : PalAsked n l k a) (hi : ∀ x ∈ l, I64 x) : ColsOk n a l :=
  ⟨h.good, h.proper.1, fun x hx => (h.all x hx).1, hi, fun v hv => h.deg hv⟩

end Go.Proofs.YtndebacmnpghkaaGreat
end
