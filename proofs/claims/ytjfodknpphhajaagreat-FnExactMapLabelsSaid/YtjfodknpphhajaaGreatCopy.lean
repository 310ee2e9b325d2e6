/- Copying between slices, digits of numbers. No program is named here. -/
import Derived.Test.YtjfodknpphhajaaGreatRules
import Derived.Laws.IdiomCopy
namespace Go.GX
open Go.RowKit

/-! ### Digits -/

theorem wrap_u64 {n : Int} (h0 : 0 ≤ n) (h1 : n < 18446744073709551616) : IntKind.u64.wrap n = n := by
  have e1 : (2 : Int) ^ 64 = 18446744073709551616 := rfl
  have hs : IntKind.u64.signed = false := rfl
  simp only [IntKind.wrap, IntKind.bits, hs, Bool.false_and, e1]
  rw [Int.emod_eq_of_lt h0 h1]; simp

theorem ofInt_toNat (n : Nat) (h : n < 18446744073709551616) : (BitVec.ofInt 64 (n : Int)).toNat = n := by
  rw [BitVec.toNat_ofInt]
  have : ((2 ^ 64 : Nat) : Int) = 18446744073709551616 := rfl
  rw [this]
  omega

theorem bitAnd_i64 (a b : Nat) (ha : a < 9223372036854775808) (hb : b < 9223372036854775808) : bitAnd .i64 a b = ((a &&& b : Nat) : Int) := by
  unfold bitAnd
  have h1 : (BitVec.ofInt IntKind.i64.bits (a : Int) &&& BitVec.ofInt IntKind.i64.bits (b : Int)).toNat = a &&& b := by
    show (BitVec.ofInt 64 (a : Int) &&& BitVec.ofInt 64 (b : Int)).toNat = a &&& b
    rw [BitVec.toNat_and, ofInt_toNat a (by omega), ofInt_toNat b (by omega)]
  rw [h1]
  have := Nat.and_le_left (n := a) (m := b)
  exact wrap_of (by omega) (by omega)

theorem bitAnd_u64 (a b : Nat) (ha : a < 18446744073709551616) (hb : b < 18446744073709551616) : bitAnd .u64 a b = ((a &&& b : Nat) : Int) := by
  unfold bitAnd
  have h1 : (BitVec.ofInt IntKind.u64.bits (a : Int) &&& BitVec.ofInt IntKind.u64.bits (b : Int)).toNat = a &&& b := by
    show (BitVec.ofInt 64 (a : Int) &&& BitVec.ofInt 64 (b : Int)).toNat = a &&& b
    rw [BitVec.toNat_and, ofInt_toNat a ha, ofInt_toNat b hb]
  rw [h1]
  have := Nat.and_le_left (n := a) (m := b)
  exact wrap_u64 (by omega) (by omega)

theorem bitAnd_u64_low (a : Nat) (ha : a < 4294967296) : bitAnd .u64 a 4294967295 = a := by
  have := bitAnd_u64 a 4294967295 (by omega) (by omega)
  rw [show ((4294967295 : Nat) : Int) = 4294967295 from rfl] at this
  rw [this]
  congr 1
  have := Nat.and_two_pow_sub_one_eq_mod a 32
  rw [show (2 : Nat) ^ 32 - 1 = 4294967295 from rfl, show (2 : Nat) ^ 32 = 4294967296 from rfl] at this
  rw [this]
  exact Nat.mod_eq_of_lt ha

theorem shr_nat (k : IntKind) (a j : Nat) (hj : j ≤ k.bits) : shrI k a j = ((a / 2 ^ j : Nat) : Int) := by
  unfold shrI
  rw [Int.toNat_natCast, Nat.min_eq_left hj, Int.fdiv_eq_ediv_of_nonneg _ (Int.le_of_lt (Int.pow_pos (by decide)))]
  simp

/-! ### Cutting -/

/-- s[lo:] of a slice of the call's own. -/
theorem SLC_from {s : Sl} {lo : Nat} {sz : Nat} (hle : s.len ≤ s.cap) (hlo : lo ≤ s.len) {K : Sl → Prop}
    (hk : ∀ d : Sl, d.len = s.len - lo → (lo < s.len → d.a = s.a.map (·.add (lo * sz))) → K d) : SLC s (some (lo : Int)) none sz K := by
  refine ⟨by simp, by simp; omega, by simp; omega, hk _ ?_ ?_⟩
  · simp
  · intro hlt
    simp
    intro h; omega

theorem SLC_from' {s : Sl} {lo : Nat} {sz : Nat} (hle : s.len ≤ s.cap) (hlo : lo ≤ s.len) {K : Sl → Prop}
    (hk : ∀ d : Sl, d.len = s.len - lo → d.cap = s.cap - lo → (lo < s.len → d.a = s.a.map (·.add (lo * sz))) → K d) : SLC s (some (lo : Int)) none sz K := by
  refine ⟨by simp, by simp; omega, by simp; omega, hk _ ?_ ?_ ?_⟩
  · simp
  · simp
  · intro hlt
    simp
    intro h; omega

/-- s[:hi]. -/
theorem SLC_to {s : Sl} {hi : Nat} {sz : Nat} (hhi : hi ≤ s.cap) {K : Sl → Prop}
    (hk : ∀ d : Sl, d.len = hi → d.a = s.a → d.cap = s.cap → K d) : SLC s none (some (hi : Int)) sz K := by
  refine ⟨by simp, by simp, by simp; omega, hk _ (by simp) ?_ (by simp)⟩
  simp
  intro _
  cases s.a <;> simp [add_zero']

/-! ### copy -/

theorem flat1 {α : Type} [Flat α] (h1 : Rep.sz α = 1) (l : List α) : ∃ f : α → Value, l.flatMap Flat.cells = l.map f ∧ ∀ x ∈ l, Flat.cells x = [f x] := by
  refine ⟨fun x => (Flat.cells x).headD undef, ?_, ?_⟩
  · induction l with
    | nil => rfl
    | cons x r ih =>
      rw [List.flatMap_cons, List.map_cons, ih]
      have hx : (Flat.cells x).length = 1 := by rw [Flat.size]; exact h1
      match hc : Flat.cells x, hx with
      | [v], _ => rfl
  · intro x _
    have hx : (Flat.cells x).length = 1 := by rw [Flat.size]; exact h1
    match hc : Flat.cells x, hx with
    | [v], _ => simp [hc]

/-- copy(d, y): d a part, from place off on, of a slice of the call's own. -/
theorem RUN_copy {α : Type} [Flat α] (hα : Rep.sz α = 1) {P : Program} {t ti e : TypeId} {bytes : Nat} {z : Value} (hT : SlT P t e 1 bytes z) {w : World} {base : Nat} {s d y : Sl} {l m : List α} (h : OwnL w base e s l)
    {off : Nat} (hd : 0 < d.len → d.a = s.a.map (·.add off)) (hfit : off + d.len ≤ l.length) {D : Nat → Prop} (hy : SlR D w y m) {K : Int → World → Prop}
    (hk : ∀ w', OwnL w' base e s (l.take off ++ m.take d.len ++ l.drop (off + min m.length d.len)) → Step w w' s.v.ownBlock → w'.heap.size = w.heap.size → K ((min m.length d.len : Nat) : Int) w') :
    RUN P (.at (.int .i64)) (bsem .copy #[t, t] ti #[d.v, y.v]) w K := by
  obtain ⟨i, hi, hz0, hsz, hby⟩ := hT.parts
  have hs1 : (P.info? e).map (·.size) = some 1 := by rw [hi]; simp [hsz]
  have fin : ∀ n w', (Builtin.copy_ #[t, t] ti #[d.v, y.v]).run P w = .ok (goInt n) w' → K (n : Int) w' → RUN P (.at (.int .i64)) (bsem .copy #[t, t] ti #[d.v, y.v]) w K := by
    intro n w' hr hK
    unfold RUN
    show (match (Builtin.copy_ #[t, t] ti #[d.v, y.v]).run P w with | .ok v w' => _ | .halt _ _ => False)
    rw [hr]
    exact hK
  have hyl := hy.len
  by_cases hmin : min m.length d.len = 0
  · refine fin 0 w ?_ ?_
    · exact run_copy_none (P := P) w t t ti e d.a y.a d.len d.cap y.len y.cap hT.under hs1 (by rw [hyl]; exact hmin)
    · have := hk w ?_ (Step.refl _ _) rfl
      · rwa [hmin] at this
      · rw [hmin]
        have : m.take d.len = [] := by
          apply List.eq_nil_of_length_eq_zero; rw [List.length_take]; omega
        rw [this]
        simpa using h
  · have hm0 : 0 < m.length := by omega
    have hd0 : 0 < d.len := by omega
    rcases h.2.2 with ⟨hv, h0⟩ | ⟨g, cap, cur, hv, hb, hg, hle, hmx, hcs, htake⟩
    · have := h.1; omega
    · have hv' := hv
      simp [Sl.v] at hv
      obtain ⟨hsa, rfl⟩ := hv
      have hda : d.a = some ⟨g, off, none⟩ := by
        rw [hd hd0, hsa]
        simp only [Option.map_some, Addr.add]
        split <;> simp_all
      obtain ⟨ya, _, hya, _⟩ := hy.2.2 0 m[0] (by simp [hm0])
      obtain ⟨f, hf, hf1⟩ := flat1 hα m
      obtain ⟨fl, hfl, hl1⟩ := flat1 hα l
      have hsrc := hy.flat hya
      rw [hf] at hsrc
      have hll := h.1
      rw [hα] at hcs htake
      rw [hfl] at htake
      have hcsz : cur.size = s.cap := by omega
      have hone : ∀ v ∈ m.map f, v.oneCell' = true := by
        intro v hv
        obtain ⟨x, hx, rfl⟩ := List.mem_map.1 hv
        exact Flat.one x _ (by rw [hf1 x hx]; simp)
      have hr := run_copy_row (P := P) w t t ti e g off d.len d.cap ya y.len y.cap cur e ((m.map f).take d.len) hT.under hs1 hg (by rw [List.length_take, List.length_map, hyl]; exact Nat.min_comm _ _) (fun j v hj => hsrc j v (by
          rw [List.getElem?_take] at hj
          split at hj
          · exact hj
          · cases hj)) (by rw [List.length_take, List.length_map]; omega) (fun v hv => hone v (List.mem_of_mem_take hv))
      have hdv : d.v = .slice (some ⟨g, off, none⟩) d.len d.cap := by simp [Sl.v, hda]
      have hyv : y.v = .slice (some ya) y.len y.cap := by simp [Sl.v, hya]
      rw [← hdv, ← hyv] at hr
      have hlen : ((m.map f).take d.len).length = min m.length d.len := by rw [List.length_take, List.length_map]; exact Nat.min_comm _ _
      refine fin _ _ hr ?_
      rw [hlen]
      refine hk _ ?_ ⟨rfl, rfl, rfl, by simp, fun k _ hne => setRow_other _ _ _ _ (by intro he; subst he; exact hne (by rw [hv']; rfl))⟩ (by simp)
      refine ⟨?_, ?_, ?_⟩
      · simp only [List.length_append, List.length_take, List.length_drop]; omega
      · have hall : ∀ q : List α, (q.flatMap Flat.cells).length = q.length := by
          intro q
          obtain ⟨fq, hfq, _⟩ := flat1 hα q
          rw [hfq]; simp
        rw [hall, hα]
        simp only [List.length_append, List.length_take, List.length_drop]; omega
      · refine .inr ⟨g, s.cap, _, hv', hb, setRow_heap _ _ _ _ _ _ hg, hle, hmx, ?_, ?_⟩
        · rw [hα]
          simp only [List.size_toArray, List.length_append, List.length_take, List.length_drop, List.length_map, Array.length_toList]
          omega
        · rw [hα, Nat.mul_one]
          have e1 : (l.take off ++ m.take d.len ++ l.drop (off + min m.length d.len)).flatMap Flat.cells = (l.map fl).take off ++ (m.map f).take d.len ++ (l.map fl).drop (off + min m.length d.len) := by
            rw [List.flatMap_append, List.flatMap_append]
            have hsub : ∀ (q : List α) (g : α → Value), (∀ x ∈ q, Flat.cells x = [g x]) → q.flatMap Flat.cells = q.map g := by
              intro q g hq
              induction q with
              | nil => rfl
              | cons x r ih => rw [List.flatMap_cons, hq x (by simp), ih (fun y hy => hq y (by simp [hy]))]; rfl
            rw [hsub (l.take off) fl (fun x hx => hl1 x (List.mem_of_mem_take hx)), hsub (m.take d.len) f (fun x hx => hf1 x (List.mem_of_mem_take hx)), hsub (l.drop _) fl (fun x hx => hl1 x (List.mem_of_mem_drop hx)), List.map_take, List.map_take, List.map_drop]
          rw [e1]
          have hcl : (l.map fl) = cur.toList.take s.len := by rw [← htake, Nat.mul_one]
          rw [hcl]
          have hcl2 : cur.toList.length = s.cap := by simp [hcsz]
          apply List.ext_getElem?
          intro j
          simp only [List.getElem?_take, List.getElem?_append, List.getElem?_drop, List.length_append, List.length_take, List.length_map, hcl2]
          by_cases hj : j < s.len
          · by_cases h1 : j < off
            · have a1 : j < min off s.cap := by omega
              have a2 : j < min off s.cap + min d.len m.length := by omega
              have a3 : j < min off (min s.len s.cap) := by omega
              have a4 : j < min off (min s.len s.cap) + min d.len m.length := by omega
              simp only [hj, h1, a1, a2, a3, a4, if_true]
            · by_cases h2 : j < off + min m.length d.len
              · have a1 : ¬ j < min off s.cap := by omega
                have a2 : j < min off s.cap + min d.len m.length := by omega
                have a3 : ¬ j < min off (min s.len s.cap) := by omega
                have a4 : j < min off (min s.len s.cap) + min d.len m.length := by omega
                simp only [hj, a1, a2, a3, a4, if_true, if_false]
                rw [show j - min off s.cap = j - min off (min s.len s.cap) by omega]
              · have a2 : ¬ j < min off s.cap + min d.len m.length := by omega
                have a4 : ¬ j < min off (min s.len s.cap) + min d.len m.length := by omega
                simp only [hj, a2, a4, if_true, if_false]
                rw [show off + min m.length d.len + (j - (min off s.cap + min d.len m.length)) = j by omega, show off + min m.length d.len + (j - (min off (min s.len s.cap) + min d.len m.length)) = j by omega, if_pos hj]
          · have a4 : ¬ j < min off (min s.len s.cap) + min d.len m.length := by omega
            simp only [hj, a4, if_false]
            rw [if_neg (by omega)]

/-! ### clear, and the first part of a slice of the call's own -/

theorem RUN_clear {P : Program} {t ti e : TypeId} {bytes : Nat} {z : Value} (hT : SlT P t e 1 bytes z) (hz : z.cells = #[z]) {w : World} {d : Sl} {a : Addr} (hd : d.a = some a) (hn : 0 < d.len) {K : Value → World → Prop}
    (h : ST a 0 (List.replicate d.len z) w (K (.tuple #[]))) : RUN P (.at .val) (bsem .clear #[t] ti #[d.v]) w K := by
  obtain ⟨i, hi, hz0, hsz, hby⟩ := hT.parts
  obtain ⟨w', hr, hk⟩ := ST_run (P := P) h
  have hzv : (zeroValue e).run P w = .ok z w := by simp [zeroValue, typeInfo, program, Sem.run, hi, hz0]
  have hzc : (Builtin.zeroCells z.cells d.len).toList = List.replicate d.len z := by
    rw [hz]
    simp [Builtin.zeroCells]
    apply List.ext_getElem
    · simp
    · intro i h1 h2
      simp [Nat.mod_one]
  have hrun : (Builtin.clear_ #[t] ti #[d.v]).run P w = .ok (.tuple #[]) w' := by
    obtain ⟨m, hm⟩ : ∃ m, d.len = m + 1 := ⟨d.len - 1, by omega⟩
    rw [hm] at hzc hr
    have hdv : d.v = .slice (some a) (m + 1) d.cap := by simp [Sl.v, hd, hm]
    rw [hdv]
    simp [Builtin.clear_, underlying_run hT.under, hzv, hzc, hr]
  unfold RUN
  show (match (Builtin.clear_ #[t] ti #[d.v]).run P w with | .ok v w' => _ | .halt _ _ => False)
  rw [hrun]
  exact hk

theorem OwnL.front {α : Type} [Flat α] {w : World} {base : Nat} {e : TypeId} {s : Sl} {l : List α} (h : OwnL w base e s l) {k : Nat} (hk : k ≤ l.length) : OwnL w base e ⟨s.a, k, s.cap⟩ (l.take k) := by
  have hlen : ∀ q : List α, (q.flatMap Flat.cells).length = q.length * Rep.sz α := by
    intro q
    induction q with
    | nil => simp
    | cons x r ih => rw [List.flatMap_cons, List.length_append, ih, Flat.size x, List.length_cons, Nat.succ_mul, Nat.add_comm]
  refine ⟨by simp; omega, ?_, ?_⟩
  · rw [hlen, List.length_take, Nat.min_eq_left hk]
  · rcases h.2.2 with ⟨hv, h0⟩ | ⟨g, cap, cur, hv, hb, hg, hle, hmx, hsz, htake⟩
    · simp [Sl.v] at hv
      have := h.1
      refine .inl ⟨?_, by simp only; omega⟩
      simp [Sl.v, hv.1]
      omega
    · have hv' := hv
      simp [Sl.v] at hv
      have hl := h.1
      refine .inr ⟨g, cap, cur, ?_, hb, hg, by simp only; omega, hmx, hsz, ?_⟩
      · simp [Sl.v, hv.1, hv.2]
      · have hk2 : ((l.take k).flatMap Flat.cells).length = k * Rep.sz α := by rw [hlen, List.length_take, Nat.min_eq_left hk]
        have e2 : (l.take k).flatMap Flat.cells = (l.flatMap Flat.cells).take (k * Rep.sz α) := by
          have e3 : l.flatMap Flat.cells = (l.take k).flatMap Flat.cells ++ (l.drop k).flatMap Flat.cells := by rw [← List.flatMap_append, List.take_append_drop]
          rw [e3, ← hk2, List.take_left]
        rw [e2, ← htake, List.take_take]
        have : k * Rep.sz α ≤ s.len * Rep.sz α := Nat.mul_le_mul_right _ (by omega)
        rw [Nat.min_eq_left this]

/-- Clearing the last part of a slice of the call's own, from place i on. -/
theorem RUN_clearI {P : Program} {t ti e : TypeId} {bytes : Nat} (hT : SlT P t e 1 bytes (.int .i64 0)) {w : World} {base : Nat} {s d : Sl} {l : List Int} (h : OwnL w base e s l) {i : Nat} (hi : i < l.length) (hd : d.a = s.a.map (·.add i)) (hdl : d.len = l.length - i) {K : Value → World → Prop}
    (hk : ∀ w', OwnL w' base e s (l.take i ++ List.replicate (l.length - i) 0) → Step w w' s.v.ownBlock → K (.tuple #[]) w') : RUN P (.at .val) (bsem .clear #[t] ti #[d.v]) w K := by
  rcases h.2.2 with ⟨hv, h0⟩ | ⟨g, cap, cur, hv, hb, hg, hle, hmx, hsz, htake⟩
  · have := h.1; omega
  · have hv' := hv
    simp [Sl.v] at hv
    obtain ⟨hsa, rfl⟩ := hv
    have hf : ∀ q : List Int, q.flatMap Flat.cells = q.map (Value.int .i64) := by
      intro q
      induction q with
      | nil => rfl
      | cons x r ih => rw [List.flatMap_cons, ih]; rfl
    have hda : d.a = some ((⟨g, 0, none⟩ : Addr).add i) := by rw [hd, hsa]; rfl
    have hown : w.ownsRow base e 1 (.slice (some ⟨g, 0, none⟩) s.len s.cap) s.len (l.map (Value.int .i64)) := by
      have := h.2; unfold Own at this; rw [hv', hf] at this; exact this
    refine RUN_clear hT rfl hda (by omega) ?_
    refine setMany_own (List.replicate d.len (.int .i64 0)) i _ w _ hown (by intro v hv; rw [List.eq_of_mem_replicate hv]; rfl) (by simp; omega) (fun w' hw' hs => hk w' ⟨by simp; have := h.1; omega, ?_⟩ (by rw [hv']; exact hs)) _ 0 (by simp only [Addr.add]; split <;> simp_all)
    unfold Own
    rw [hv', hf]
    have e1 : (l.take i ++ List.replicate (l.length - i) 0).map (Value.int .i64) = (l.map (Value.int .i64)).take i ++ List.replicate d.len (.int .i64 0) ++ (l.map (Value.int .i64)).drop (i + (List.replicate d.len (Value.int .i64 0)).length) := by
      rw [List.drop_of_length_le (by simp; omega)]
      simp [hdl]
    rw [e1]
    exact hw'

end Go.GX
