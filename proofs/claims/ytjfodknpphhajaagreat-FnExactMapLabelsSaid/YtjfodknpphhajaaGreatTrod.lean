/- Arguments that come in, read as data: from the statements' own reading of memory to the rules' reading. No program is named here. -/
import Derived.Test.YtjfodknpphhajaaGreatRules
import Derived.Deep.Slices
import Derived.Lib.SmallJoins
import Derived.OpenShut
import Derived.ShutString
import Derived.ChangeOld
import Derived.Carry
import Derived.ProofKit
namespace Go.GX
open Go.RowKit Go.WideShapes Go.ChangeShapes Go.ChangeAt Go.Deep

/-- Whatever the statements read at type t is data of α in memory. -/
def Reads (P : Program) (t : TypeId) (α : Type) [Rep α] : Prop :=
  ∀ {H : Type} {enc : TypeId × Value → H} {w : World} {base : Nat} {spare : Nat → Bool} {held : Bool} {fuel : Nat} {cs : List Value} {x : DataW H × List MemPlace},
    DataW.trod enc P w base spare held fuel t cs = some x → ∃ a : α, Rep.rep (fun _ => True) w cs a

theorem Reads.int {P : Program} {t : TypeId} (ht : P.underlying t = some (.int .i64)) : Reads P t Int := fun h => by
  obtain ⟨n, rfl, _, hn⟩ := DataW.trod_int ht h
  exact ⟨n, rfl, bounds_i64 hn⟩

theorem Reads.slice {P : Program} {t e : TypeId} {α : Type} [RepP α] (ht : P.underlying t = some (.slice e)) (hc : P.cellsOf e = Rep.sz α) (he : Reads P e α) : Reads P t (List α) := by
  intro H enc w base spare held fuel cs x h
  rcases open_slice ht h with ⟨rfl, _⟩ | ⟨a, len, cap, m, n, D, Pl, rfl, hb, hl, hm, hmm, _, hx⟩
  · exact ⟨[], ⟨none, 0, 0⟩, rfl, rfl, ⟨Nat.le_refl _, Nat.zero_le _⟩, fun i x hx => by simp at hx⟩
  · have hlm : len ≤ m := by rw [hmm]; split <;> omega
    have hall : ∀ i : Fin len, ∃ z : α, ∃ cs', Rep.rep (fun _ => True) w cs' z ∧ ∀ j v, cs'[j]? = some v → w.cell? (a.add (i.1 * Rep.sz α + j)) = some v := fun i => by
      obtain ⟨cs', h1, h2⟩ := hx i.1 (by omega)
      obtain ⟨z, hz⟩ := he h2
      refine ⟨z, cs', hz, fun j v hj => ?_⟩
      obtain ⟨_, hlen, hcell⟩ := World.cells?_some h1
      have hj' : j < cs'.length := (List.getElem?_eq_some_iff.1 hj).1
      have := hcell j (by omega)
      rw [hj, add_add, hc] at this
      exact this
    refine ⟨List.ofFn fun i => (hall i).choose, ⟨some a, len, cap⟩, rfl, by simp, ⟨hl, by simpa [maxLen] using hm⟩, fun i x hx => ?_⟩
    rw [List.getElem?_ofFn] at hx
    split at hx
    · rename_i hi
      simp at hx
      subst hx
      obtain ⟨cs', h1, h2⟩ := (hall ⟨i, hi⟩).choose_spec
      exact ⟨a, cs', rfl, trivial, h1, h2⟩
    · cases hx

/-- A struct type whose fields have these types, each one cell, one after the other. -/
def fieldsB (P : Program) (t : TypeId) (ts : List TypeId) : Bool :=
  (match P.underlying t with | some (.struct fs) => fs.toList.map (fun f => (f.type, f.offset)) == ts.zipIdx | _ => false) && ts.all (fun u => P.cellsOf u == 1) && P.cellsOf t == ts.length

theorem fieldsB_struct {P : Program} {t : TypeId} {ts : List TypeId} (h : fieldsB P t ts = true) :
    ∃ fs, P.underlying t = some (.struct fs) ∧ fs.toList.map (fun f => (f.type, f.offset)) = ts.zipIdx ∧ (∀ u ∈ ts, P.cellsOf u = 1) ∧ P.cellsOf t = ts.length := by
  simp only [fieldsB, Bool.and_eq_true, List.all_eq_true, beq_iff_eq] at h
  obtain ⟨⟨h1, h2⟩, h3⟩ := h
  cases hu : P.underlying t with
  | none => rw [hu] at h1; cases h1
  | some u =>
    rw [hu] at h1
    cases u with
    | struct fs => exact ⟨fs, rfl, by simpa using h1, h2, h3⟩
    | _ => cases h1

theorem trod_fields {P : Program} {t : TypeId} {ts : List TypeId} (h : fieldsB P t ts = true) {H : Type} {enc : TypeId × Value → H} {w : World} {base : Nat} {spare : Nat → Bool} {held : Bool} {fuel : Nat} {cs : List Value} {x : DataW H × List MemPlace}
    (hx : DataW.trod enc P w base spare held fuel t cs = some x) : cs.length = ts.length ∧ ∀ (i : Nat) (u : TypeId), ts[i]? = some u → ∃ v n y, cs[i]? = some v ∧ DataW.trod enc P w base spare held n u [v] = some y := by
  obtain ⟨fs, hu, hm, h1, hc⟩ := fieldsB_struct h
  obtain ⟨xs, n, _, _, hl, hlen, hf⟩ := DataW.trod_struct hu hx
  refine ⟨hl.trans hc, fun i u hi => ?_⟩
  have hi' : i < ts.length := (List.getElem?_eq_some_iff.1 hi).1
  have hfl : fs.size = ts.length := by have := congrArg List.length hm; simpa using this
  have hg : (fs.toList.map (fun f => (f.type, f.offset)))[i]? = some (u, i) := by rw [hm]; simp [List.getElem?_zipIdx, hi]
  have hif : i < fs.size := by omega
  have hfi : fs[i]? = some fs[i] := by simp [hif]
  rw [List.getElem?_map] at hg
  simp [hif] at hg
  have := hf i fs[i] hfi
  have hci : i < cs.length := by omega
  rw [hg.1, hg.2, h1 u (List.mem_of_getElem? hi), List.drop_eq_getElem_cons hci, List.take_succ_cons, List.take_zero] at this
  refine ⟨cs[i], n, xs[i]'(by omega), by simp [hci], ?_⟩
  rw [this]; simp

theorem Reads.pair {P : Program} {t u0 u1 : TypeId} (hf : fieldsB P t [u0, u1] = true) (h0 : Reads P u0 Int) (h1 : Reads P u1 Int) : Reads P t (Int × Int) := fun h => by
  obtain ⟨hl, hx⟩ := trod_fields hf h
  obtain ⟨v0, n0, y0, hv0, ht0⟩ := hx 0 u0 rfl
  obtain ⟨v1, n1, y1, hv1, ht1⟩ := hx 1 u1 rfl
  obtain ⟨a, ha, hA⟩ := h0 ht0
  obtain ⟨b, hb, hB⟩ := h1 ht1
  simp only [List.cons.injEq, and_true] at ha hb
  subst ha; subst hb
  refine ⟨(a, b), ?_, hA, hB⟩
  apply List.ext_getElem?
  intro i
  match i with
  | 0 => simpa using hv0
  | 1 => simpa using hv1
  | i + 2 => simp at hl; simp [hl]

/-- An argument that is a slice. -/
theorem open_list {P : Program} {t e : TypeId} {α : Type} [RepP α] (ht : P.underlying t = some (.slice e)) (hR : Reads P t (List α)) {H : Type} {enc : TypeId × Value → H} {w : World} {base b0 : Nat} {spare : Nat → Bool} {held : Bool} {r : Reach} {v : Value} {d : DataW H} {p : List MemPlace}
    (hv : Value.okWide P w r b0 t v) (h : DataW.Trod enc P w base spare held t v d p) : ∃ (s : Sl) (l : List α), v = s.v ∧ R w s l := by
  obtain ⟨a, len, cap, rfl⟩ := okWide_slice ht hv
  obtain ⟨fuel, hf⟩ := h
  obtain ⟨l, s, hs, hl⟩ := hR hf
  simp [Value.cells] at hs
  obtain ⟨rfl, rfl, rfl⟩ := hs
  exact ⟨s, l, rfl, hl⟩

/-- An argument that is a struct of three slices. -/
theorem open_three {P : Program} {t u0 u1 u2 : TypeId} {α β γ : Type} [RepP α] [RepP β] [RepP γ] (hf : fieldsB P t [u0, u1, u2] = true) (h0 : Reads P u0 (List α)) (h1 : Reads P u1 (List β)) (h2 : Reads P u2 (List γ))
    {H : Type} {enc : TypeId × Value → H} {w : World} {base b0 : Nat} {spare : Nat → Bool} {held : Bool} {r : Reach} {v : Value} {d : DataW H} {p : List MemPlace}
    (hv : Value.okWide P w r b0 t v) (h : DataW.Trod enc P w base spare held t v d p) : ∃ (a b c : Sl) (x : List α) (y : List β) (z : List γ), v = .agg #[a.v, b.v, c.v] ∧ R w a x ∧ R w b y ∧ R w c z := by
  obtain ⟨fs, hu, _⟩ := fieldsB_struct hf
  obtain ⟨cs, rfl, _⟩ := okWide_struct hu hv
  obtain ⟨fuel, hx⟩ := h
  obtain ⟨hl, hx⟩ := trod_fields hf hx
  obtain ⟨v0, n0, y0, hv0, ht0⟩ := hx 0 u0 rfl
  obtain ⟨v1, n1, y1, hv1, ht1⟩ := hx 1 u1 rfl
  obtain ⟨v2, n2, y2, hv2, ht2⟩ := hx 2 u2 rfl
  obtain ⟨x, a, ha, hA⟩ := h0 ht0
  obtain ⟨y, b, hb, hB⟩ := h1 ht1
  obtain ⟨z, c, hc, hC⟩ := h2 ht2
  simp only [List.cons.injEq, and_true] at ha hb hc
  subst ha; subst hb; subst hc
  refine ⟨a, b, c, x, y, z, ?_, hA, hB, hC⟩
  congr 1
  apply Array.ext'
  apply List.ext_getElem?
  intro i
  match i with
  | 0 => simpa [Value.cells] using hv0
  | 1 => simpa [Value.cells] using hv1
  | 2 => simpa [Value.cells] using hv2
  | i + 3 => simp [Value.cells] at hl; simp [hl]

theorem open_problem {P : Program} {t u0 u1 u2 u3 : TypeId} {α β : Type} [RepP α] [RepP β] (hf : fieldsB P t [u0, u1, u2, u3] = true) (h0 : Reads P u0 Int) (h1 : Reads P u1 Int) (h2 : Reads P u2 (List α)) (h3 : Reads P u3 (List β))
    {H : Type} {enc : TypeId × Value → H} {w : World} {base b0 : Nat} {spare : Nat → Bool} {held : Bool} {r : Reach} {v : Value} {d : DataW H} {p : List MemPlace}
    (hv : Value.okWide P w r b0 t v) (h : DataW.Trod enc P w base spare held t v d p) : ∃ (a b : Int) (c e : Sl) (y : List α) (z : List β), v = .agg #[.int .i64 a, .int .i64 b, c.v, e.v] ∧ I64 a ∧ I64 b ∧ R w c y ∧ R w e z := by
  obtain ⟨fs, hu, _⟩ := fieldsB_struct hf
  obtain ⟨cs, rfl, _⟩ := okWide_struct hu hv
  obtain ⟨fuel, hx⟩ := h
  obtain ⟨hl, hx⟩ := trod_fields hf hx
  obtain ⟨v0, n0, y0, hv0, ht0⟩ := hx 0 u0 rfl
  obtain ⟨v1, n1, y1, hv1, ht1⟩ := hx 1 u1 rfl
  obtain ⟨v2, n2, y2, hv2, ht2⟩ := hx 2 u2 rfl
  obtain ⟨v3, n3, y3, hv3, ht3⟩ := hx 3 u3 rfl
  obtain ⟨a, ha, hA⟩ := h0 ht0
  obtain ⟨b, hb, hB⟩ := h1 ht1
  obtain ⟨y, c, hc, hC⟩ := h2 ht2
  obtain ⟨z, e, he, hE⟩ := h3 ht3
  simp only [List.cons.injEq, and_true] at ha hb hc he
  subst ha; subst hb; subst hc; subst he
  refine ⟨a, b, c, e, y, z, ?_, hA, hB, hC, hE⟩
  congr 1
  apply Array.ext'
  apply List.ext_getElem?
  intro i
  match i with
  | 0 => simpa [Value.cells] using hv0
  | 1 => simpa [Value.cells] using hv1
  | 2 => simpa [Value.cells] using hv2
  | 3 => simpa [Value.cells] using hv3
  | i + 4 => simp [Value.cells] at hl; simp [hl]

/-- Arguments read again behind a call that wrote nothing of theirs. -/
theorem trodAll_stays {P : Program} (hl : laidOutB P = true) {H : Type} {enc : TypeId × Value → H} {W W' : World} (hb : Below W.heap.size W W') : ∀ (ts : List TypeId) (vs : List Value) (ds : List (DataW H)) (p : List MemPlace),
    (ts.all fun t => P.readableRec t && decide (t < P.types.size)) = true → DataW.TrodAll enc P W 0 (fun _ => true) true ts vs ds p → DataW.TrodAll enc P W' 0 (fun b => decide (b < W.heap.size)) true ts vs ds p
  | [], vs, ds, p, _, h => by
    obtain ⟨rfl, rfl, rfl⟩ := trodAll_nil h
    exact trodAll_mk0
  | t :: ts, vs, ds, p, ha, h => by
    simp only [List.all_cons, Bool.and_eq_true, decide_eq_true_eq] at ha
    obtain ⟨v, vs', d, ds', p', q', rfl, rfl, rfl, h1, h2⟩ := trodAll_cons h
    refine trodAll_cons_mk (Below.trod hl ha.1.1 ha.1.2 h1 hb ?_) (trodAll_stays hl hb ts vs' ds' q' ha.2 h2)
    obtain ⟨m, hm⟩ := h1
    exact DataW.trod_lt m _ _ _ hm

end Go.GX
