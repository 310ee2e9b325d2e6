/- A queue of integers: the call's own slice whose front may have been cut off. -/
import Derived.Test.YtoeaoinedidbiaaGreatCopy
import Derived.ArgAppend
namespace Go.Proofs.YtoeaoinedidbiaaGreat
open Go.GX Go.RowKit
set_option maxRecDepth 100000

/-- The queue s holds the list l in one of the call's own blocks. -/
def QL (w : World) (base : Nat) (e : TypeId) (s : Sl) (l : List Int) : Prop :=
  s.len = l.length ∧ ∃ g off cur, s.a = some ⟨g, off, none⟩ ∧ base ≤ g ∧ w.heap[g]? = some (.cells cur e (0, 0)) ∧ l.length ≤ s.cap ∧ s.cap ≤ maxLen ∧ off + s.cap ≤ cur.size ∧ ∀ (j : Nat) (x : Int), l[j]? = some x → cur[off + j]? = some (.int .i64 x)

section
variable {w w' : World} {base : Nat} {e : TypeId} {s : Sl} {l : List Int}

theorem QL.of_own (h : OwnL w base e s l) (hl : l ≠ []) : QL w base e s l := by
  obtain ⟨h1, h2⟩ := h
  refine ⟨h1, ?_⟩
  rcases h2.2 with ⟨hv, h0⟩ | ⟨g, cap, cur, hv, hb, hg, hle, hmx, hsz, htake⟩
  · rw [h0] at h1
    exact absurd (List.eq_nil_of_length_eq_zero h1.symm) hl
  · simp [Sl.v] at hv
    obtain ⟨ha, hc⟩ := hv
    subst hc
    have h1r : Rep.sz Int = 1 := rfl
    rw [h1r, Nat.mul_one] at hsz htake
    refine ⟨g, 0, cur, ha, hb, hg, by omega, hmx, by omega, fun j x hx => ?_⟩
    have hj : j < l.length := (List.getElem?_eq_some_iff.1 hx).1
    have e1 : (l.flatMap Flat.cells)[j * Rep.sz Int + 0]? = some (.int .i64 x) := flat_get l hx rfl
    rw [h1r, Nat.mul_one, Nat.add_zero, ← htake, List.getElem?_take, if_pos (by omega)] at e1
    simpa using e1

theorem QL.blk (h : QL w base e s l) : ∀ k, s.v.ownBlock = some k → base ≤ k ∧ k < w.heap.size := by
  obtain ⟨_, g, off, cur, ha, hb, hg, _⟩ := h
  intro k hk
  simp [Sl.v, ha, Value.ownBlock] at hk
  subst hk
  exact ⟨hb, (Array.getElem?_eq_some_iff.1 hg).1⟩

theorem QL.keep (h : QL w base e s l) (hb : ∀ k, s.v.ownBlock = some k → w'.heap[k]? = w.heap[k]?) : QL w' base e s l := by
  obtain ⟨h1, g, off, cur, ha, hbg, hg, h2⟩ := h
  exact ⟨h1, g, off, cur, ha, hbg, (hb g (by simp [Sl.v, ha, Value.ownBlock])).trans hg, h2⟩

theorem QL.ext (h : QL w base e s l) (hE : Ext w w') : QL w' base e s l := h.keep fun k hk => hE.block k (h.blk k hk).2

theorem QL.rep (h : QL w base e s l) (hok : ∀ x ∈ l, I64 x) : SlR (fun b => base ≤ b) w s l := by
  obtain ⟨h1, g, off, cur, ha, hb, hg, hle, hmx, hsz, hc⟩ := h
  refine ⟨h1, ⟨by omega, hmx⟩, fun i x hx => ⟨⟨g, off, none⟩, Flat.cells x, ha, hb, Flat.repOk (hok x (List.mem_of_getElem? hx)), fun j v hj => ?_⟩⟩
  have h1r : Rep.sz Int = 1 := rfl
  have hj0 : j = 0 := by
    have := (List.getElem?_eq_some_iff.1 hj).1
    have hl1 : (Flat.cells x : List Value).length = 1 := rfl
    omega
  subst hj0
  have hv : v = .int .i64 x := by simpa [Flat.cells] using hj.symm
  subst hv
  have hci := hc i x hx
  rw [h1r, Nat.mul_one, Addr.add_lit, Nat.add_zero]
  simp [World.cell?, hg, hci]

/-- The front is cut off. -/
theorem QL.tail {x : Int} (h : QL w base e s (x :: l)) {sz : Nat} (hsz : sz = 1) {K : Sl → Prop} (hk : ∀ s', QL w base e s' l → s'.v.ownBlock = s.v.ownBlock → K s') : SLC s (some 1) none sz K := by
  subst hsz
  obtain ⟨h1, g, off, cur, ha, hb, hg, hle, hmx, hsz, hc⟩ := h
  have hl1 : (x :: l).length = l.length + 1 := rfl
  refine ⟨by simp, by simp; omega, by simp; omega, hk _ ?_ ?_⟩
  · refine ⟨by simp; omega, ?_⟩
    by_cases h0 : s.cap = 1
    · have hln : l = [] := List.eq_nil_of_length_eq_zero (by omega)
      subst hln
      refine ⟨g, off, cur, by simp [h0, ha], hb, hg, by simp, by simp; omega, by simp; omega, fun j x hx => by simp at hx⟩
    · refine ⟨g, off + 1, cur, by simp [h0, ha, Addr.add], hb, hg, by simp; omega, by simp; omega, by simp; omega, fun j y hy => ?_⟩
      have := hc (j + 1) y (by simpa using hy)
      rw [show off + 1 + j = off + (j + 1) by omega]
      exact this
  · by_cases h0 : s.cap = 1
    · simp [Sl.v, h0, ha, Value.ownBlock]
    · simp [Sl.v, h0, ha, Value.ownBlock, Addr.add]

/-- A row with room, from an offset on. -/
theorem run_append_room_off {P : Program} (w : World) (t ty e : TypeId) (i : TypeInfo) (ht : P.underlying t = some (.slice e)) (hi : P.info? e = some i)
    (g off sLen sCap : Nat) (cur : Array Value) (hg : w.heap[g]? = some (.cells cur e (0, 0)))
    (a : Addr) (m c : Nat) (news : List Value) (hl : news.length = m * i.size) (hnews : ∀ j u, news[j]? = some u → w.cell? (a.add j) = some u) (h1 : ∀ u ∈ news, u.oneCell' = true)
    (hroom : sLen + m ≤ sCap) (hfit : off + sLen * i.size + news.length ≤ cur.size) :
    (Builtin.append_ #[t, t] ty #[.slice (some ⟨g, off, none⟩) sLen sCap, .slice (some a) m c]).run P w =
      .ok (.slice (some ⟨g, off, none⟩) (sLen + m) sCap) (w.setRow g (cur.toList.take (off + sLen * i.size) ++ news ++ cur.toList.drop (off + sLen * i.size + news.length)).toArray) := by
  have hf := run_firstCells_some (P := P) w i.size m a m c news hl hnews
  have hst := run_storeCells_at P g (off + sLen * i.size) e news 0 cur w hg (by simpa using hfit) h1
  simp only [Nat.add_zero] at hst
  simp [Builtin.append_, run_underlying ht, sizeOf, typeInfo, hi, Builtin.lenOf, hroom, hf, Addr.add_lit, hst]

/-- append(queue, x...), what is appended being something. -/
theorem RUN_appendQ {P : Program} {t : TypeId} {bytes : Nat} {z : Value} (hT : SlT P t e 1 bytes z) {y : Sl} {m : List Int} (h : QL w base e s l) (hbase : base ≤ w.heap.size)
    {D : Nat → Prop} (hy : SlR D w y m) (hm : m ≠ []) (hlen : (l.length + m.length) * bytes ≤ 140737488355328) (hmax : l.length + m.length ≤ maxLen) {K : Sl → World → Prop}
    (hk : ∀ s' w', QL w' base e s' (l ++ m) → Step w w' s.v.ownBlock → NewOr w s s' → K s' w') : RUN P (.at .sl) (bsem .append #[t, t] t #[s.v, y.v]) w K := by
  obtain ⟨i, hi, hz0, hsz, hby⟩ := hT.parts
  have hfl : ∀ m : List Int, m.flatMap Flat.cells = m.map fun x => Value.int .i64 x := by
    intro m
    induction m with
    | nil => rfl
    | cons x r ih => rw [List.flatMap_cons, ih]; rfl
  have hyl : (m.flatMap Flat.cells).length = m.length * 1 := by rw [hfl]; simp
  have hone : ∀ u ∈ m.flatMap Flat.cells, u.oneCell' = true := by
    intro u hu
    obtain ⟨x, _, hx⟩ := List.mem_flatMap.1 hu
    exact Flat.one x u hx
  have hya : ∃ a, y.a = some a := by
    cases m with
    | nil => exact absurd rfl hm
    | cons x r => obtain ⟨a, _, ha, _⟩ := hy.2.2 0 x rfl; exact ⟨a, ha⟩
  obtain ⟨a, hya⟩ := hya
  have hyv : y.v = .slice (some a) m.length y.cap := by rw [← hy.1]; simp [Sl.v, hya]
  obtain ⟨h1, g, off, cur, ha, hb, hg, hle, hmx, hcs, hc⟩ := h
  have hsv : s.v = .slice (some ⟨g, off, none⟩) l.length s.cap := by rw [← h1]; simp [Sl.v, ha]
  have hob : s.v.ownBlock = some g := by rw [hsv]; rfl
  by_cases hroom : l.length + m.length ≤ s.cap
  · have hr := run_append_room_off (P := P) w t t e i hT.under hi g off l.length s.cap cur hg a m.length y.cap (m.flatMap Flat.cells) (by rw [hsz]; exact hyl) (hy.flat hya) hone hroom (by rw [hyl, hsz]; omega)
    rw [← hyv, ← hsv] at hr
    unfold RUN
    show (match (Builtin.append_ #[t, t] t #[s.v, y.v]).run P w with | .ok v w' => _ | .halt _ _ => False)
    rw [hr]
    refine hk ⟨some ⟨g, off, none⟩, l.length + m.length, s.cap⟩ _ ?_ ?_ (.inl ?_)
    · refine ⟨by simp, g, off, _, rfl, hb, setRow_heap w g cur _ e _ hg, by simpa using hroom, hmx, ?_, fun j x hx => ?_⟩
      · simp only [List.size_toArray, List.length_append, List.length_take, List.length_drop, Array.length_toList, hyl, hsz]
        omega
      · have hj : j < l.length + m.length := by have := (List.getElem?_eq_some_iff.1 hx).1; simpa using this
        rw [hsz, Nat.mul_one]
        simp only [List.getElem?_toArray]
        rw [List.append_assoc, List.getElem?_append]
        simp only [List.length_take, Array.length_toList]
        rw [Nat.min_eq_left (by omega)]
        by_cases hjl : j < l.length
        · rw [if_pos (by omega), List.getElem?_take, if_pos (by omega)]
          rw [List.getElem?_append_left hjl] at hx
          simpa using hc j x hx
        · rw [if_neg (by omega), List.getElem?_append_left (by rw [hyl]; omega), hfl, List.getElem?_map]
          rw [List.getElem?_append_right (by omega)] at hx
          rw [show off + j - (off + l.length) = j - l.length by omega, hx]
          rfl
    · rw [hob]
      exact ⟨rfl, rfl, rfl, by simp [World.setRow], fun k _ hk' => setRow_other w g k _ (fun e => hk' (by rw [e]))⟩
    · rw [hob]; rfl
  · have holds : ∀ (j : Nat) u, (l.flatMap Flat.cells)[j]? = some u → w.cell? ((⟨g, off, none⟩ : Addr).add j) = some u := by
      intro j u hu
      rw [hfl, List.getElem?_map] at hu
      cases hx : l[j]? with
      | none => rw [hx] at hu; cases hu
      | some x =>
        rw [hx] at hu
        have := hc j x hx
        simp at hu
        subst hu
        rw [Addr.add_lit]
        simp [World.cell?, hg, this]
    obtain ⟨v', w', hr, ho, hgr⟩ := run_append_arg_grows (P := P) w t t e i z 1 bytes hT.under hi hz0 hsz hby hT.zs hT.pos ⟨g, off, none⟩ l.length s.cap (l.flatMap Flat.cells) (by rw [hfl]; simp) holds a m.length y.cap (m.flatMap Flat.cells) hyl (hy.flat hya) (by omega) hmax hlen
    rw [← hyv, ← hsv] at hr
    have hmp : 0 < m.length := List.length_pos_iff.2 hm
    have hsl : ∃ s' : Sl, v' = s'.v ∧ s'.len = l.length + m.length := by
      rcases ho.2 with ⟨_, h0⟩ | ⟨g', cap', cur', rfl, _⟩
      · omega
      · exact ⟨⟨some ⟨g', 0, none⟩, l.length + m.length, cap'⟩, rfl, rfl⟩
    obtain ⟨s', rfl, hs'⟩ := hsl
    have hown : OwnL w' w.heap.size e s' (l ++ m) := by
      refine ⟨by simp [hs'], ?_⟩
      unfold Own
      rw [hs', List.flatMap_append]
      exact ho
    unfold RUN
    show (match (Builtin.append_ #[t, t] t #[s.v, y.v]).run P w with | .ok v w' => _ | .halt _ _ => False)
    rw [hr]
    refine hk s' w' ?_ (Step.of_ext (Step.of_grown hgr).ext _) (.inr fun k hk' => (hown.blk k hk').1)
    exact QL.of_own (hown.low hbase) (by simp [hm])

end

end Go.Proofs.YtoeaoinedidbiaaGreat
