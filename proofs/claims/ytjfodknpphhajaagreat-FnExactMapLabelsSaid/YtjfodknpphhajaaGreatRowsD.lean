/- Lists of lists of the call's own whose rows lie apart: rows that are written, that grow, that are added. No program is named here. -/
import Derived.Test.YtjfodknpphhajaaGreatRules
namespace Go.GX
open Go.RowKit

/-- The slice s of the call's own holds the rows ss, which read as the lists L and lie in blocks of their own. -/
structure RowsD {α : Type} [Flat α] (w : World) (base : Nat) (e e' : TypeId) (s : Sl) (L : List (List α)) (ss : List Sl) : Prop where
  own : OwnL w base e' s ss
  len : ss.length = L.length
  row : ∀ (i : Nat) (r : Sl) (l : List α), ss[i]? = some r → L[i]? = some l → OwnL w base e r l
  apart : ∀ (i j : Nat) (r q : Sl), ss[i]? = some r → ss[j]? = some q → i ≠ j → ∀ k, r.v.ownBlock = some k → q.v.ownBlock ≠ some k

section
variable {α : Type} [Flat α] {w w' : World} {base : Nat} {e e' : TypeId} {s : Sl} {L : List (List α)} {ss : List Sl}

theorem RowsD.own2 (h : RowsD w base e e' s L ss) : Own2 w base e e' s L := ⟨ss, h.own, h.len, h.row⟩
theorem RowsD.rep (h : RowsD w base e e' s L ss) (hok : ∀ l ∈ L, ∀ x ∈ l, Flat.ok x) : R w s L := h.own2.rep hok
theorem RowsD.nil (w : World) (base : Nat) (e e' : TypeId) : RowsD w base e e' ⟨none, 0, 0⟩ ([] : List (List α)) [] := ⟨OwnL.nil _ _ _, rfl, fun i r l h => by simp at h, fun i j r q h => by simp at h⟩
theorem RowsD.keep (h : RowsD w base e e' s L ss) (hk : ∀ k, base ≤ k → k < w.heap.size → w'.heap[k]? = w.heap[k]?) : RowsD w' base e e' s L ss :=
  ⟨h.own.keep fun k hb => hk k (h.own.blk k hb).1 (h.own.blk k hb).2, h.len, fun i r l hr hl => (h.row i r l hr hl).keep fun k hb => hk k ((h.row i r l hr hl).blk k hb).1 ((h.row i r l hr hl).blk k hb).2, h.apart⟩
theorem RowsD.ext (h : RowsD w base e e' s L ss) (hE : Ext w w') : RowsD w' base e e' s L ss := h.keep fun _ _ hk => hE.same hk
theorem RowsD.low (h : RowsD w base e e' s L ss) {b : Nat} (hb : b ≤ base) : RowsD w b e e' s L ss := ⟨h.own.low hb, h.len, fun i r l hr hl => (h.row i r l hr hl).low hb, h.apart⟩

theorem RowsD.at (h : RowsD w base e e' s L ss) {i : Nat} (hi : i < L.length) : ∃ r, ss[i]? = some r ∧ OwnL w base e r L[i] := by
  have h1 : i < ss.length := by rw [h.len]; exact hi
  exact ⟨ss[i], by simp [h1], h.row i ss[i] L[i] (by simp [h1]) (by simp [hi])⟩

/-- Looking up a row. -/
theorem RowsD.ix (h : RowsD w base e e' s L ss) {i : Nat} (hi : i < L.length) {K : Addr → Prop} (hk : ∀ p r, ss[i]? = some r → OwnL w base e r L[i] → w.cell? p = some r.v → s.v.ownBlock = some p.block → K p) : IX s i 1 K := by
  obtain ⟨r, hr, hO⟩ := h.at hi
  obtain ⟨a, cs, ha, _, hrep, hc⟩ := (h.own.rep fun _ _ => trivial).2.2 i r hr
  have hcs : cs = [r.v] := hrep
  subst hcs
  have hlen := h.own.1
  have hl2 := h.len
  refine ⟨a, ha, by omega, by omega, hk _ r hr hO (hc 0 _ rfl) ?_⟩
  have hsv : s.v = .slice (some a) s.len s.cap := by simp [Sl.v, ha]
  rw [hsv, add_block]
  rcases h.own.2.2 with ⟨hv, h0⟩ | ⟨g, cap, cur, hv, _⟩
  · omega
  · rw [hsv] at hv
    obtain ⟨h1, _⟩ := Value.slice.inj hv
    cases h1
    rfl

/-- The place of a row. -/
theorem RowsD.ixP (h : RowsD w base e e' s L ss) {i : Nat} (hi : i < L.length) {K : Addr → Prop} (hk : ∀ p, Plc s i 1 p → K p) : IX s i 1 K := IX_own h.own (by rw [h.len]; exact hi) rfl hk

theorem RowsD.block_ne (h : RowsD w base e e' s L ss) (hne : e ≠ e') {i : Nat} {r : Sl} (hr : ss[i]? = some r) {k : Nat} (hk : r.v.ownBlock = some k) : s.v.ownBlock ≠ some k := fun he => by
  have hi : i < L.length := by rw [← h.len]; exact (List.getElem?_eq_some_iff.1 hr).1
  obtain ⟨c1, e1⟩ := (h.row i r L[i] hr (by simp [hi])).type hk
  obtain ⟨c2, e2⟩ := h.own.type he
  rw [e1] at e2
  exact hne (Obj.cells.inj (Option.some.inj e2)).2.1

/-- A row that is written in place. -/
theorem RowsD.chg (h : RowsD w base e e' s L ss) (hne : e ≠ e') {i : Nat} {r : Sl} (hr : ss[i]? = some r) {l' : List α} (hO : OwnL w' base e r l') (hs : Step w w' r.v.ownBlock) : RowsD w' base e e' s (L.set i l') ss := by
  have hi : i < L.length := by rw [← h.len]; exact (List.getElem?_eq_some_iff.1 hr).1
  refine ⟨h.own.keep fun k hk => hs.block k (h.own.blk k hk).2 fun he => h.block_ne hne hr he.symm hk, by simp [h.len], fun j q l hq hl => ?_, h.apart⟩
  by_cases hji : j = i
  · subst hji
    rw [List.getElem?_set_self hi] at hl
    rw [hr] at hq
    cases hl; cases hq
    exact hO
  · rw [List.getElem?_set_ne (Ne.symm hji)] at hl
    have hq' := h.row j q l hq hl
    exact hq'.keep fun k hk => hs.block k (hq'.blk k hk).2 fun he => h.apart i j r q hr hq (Ne.symm hji) k he.symm hk

/-- A row that is replaced: what it became lies in its block or in a new one. -/
theorem RowsD.put (h : RowsD w base e e' s L ss) (hne : e ≠ e') {i : Nat} (hi : i < L.length) {r r' : Sl} (hr : ss[i]? = some r) {w1 : World} {l' : List α} (hO : OwnL w1 base e r' l') (hs : Step w w1 r.v.ownBlock) (hn : NewOr w r r') {p : Addr} (hp : Plc s i 1 p) {K : World → Prop}
    (hk : ∀ w2, RowsD w2 base e e' s (L.set i l') (ss.set i r') → Step w1 w2 s.v.ownBlock → K w2) : ST p 0 [r'.v] w1 K := by
  have hi' : i < ss.length := by rw [h.len]; exact hi
  have hown : OwnL w1 base e' s ss := h.own.keep fun k hk => hs.block k (h.own.blk k hk).2 fun he => h.block_ne hne hr he.symm hk
  have hlt : ∀ (j : Nat) (q : Sl), ss[j]? = some q → ∀ k, q.v.ownBlock = some k → k < w.heap.size := fun j q hq k hk => by
    have hj : j < L.length := by rw [← h.len]; exact (List.getElem?_eq_some_iff.1 hq).1
    exact ((h.row j q L[j] hq (by simp [hj])).blk k hk).2
  have hap : ∀ (j : Nat) (q : Sl), ss[j]? = some q → j ≠ i → ∀ k, r'.v.ownBlock = some k → q.v.ownBlock ≠ some k := fun j q hq hji k hk hqk => by
    rcases hn with hn | hn
    · rw [hn] at hk
      exact h.apart i j r q hr hq (Ne.symm hji) k hk hqk
    · have := hn k hk
      have := hlt j q hq k hqk
      omega
  refine ST_own hown hi' (p := p) hp r' rfl fun w2 hO2 hs2 => hk w2 ⟨hO2, by simp [h.len], fun j q l hq hl => ?_, fun j k q q' hq hq' hjk => ?_⟩ hs2
  · have hst : ∀ {q : Sl} {l : List α}, OwnL w1 base e q l → OwnL w2 base e q l := fun hq => hq.step hown hne hs2
    by_cases hji : j = i
    · subst hji
      rw [List.getElem?_set_self hi] at hl
      rw [List.getElem?_set_self hi'] at hq
      cases hl; cases hq
      exact hst hO
    · rw [List.getElem?_set_ne (Ne.symm hji)] at hl hq
      have hq' := h.row j q l hq hl
      exact hst (hq'.keep fun k hk => hs.block k (hq'.blk k hk).2 fun he => h.apart i j r q hr hq (Ne.symm hji) k he.symm hk)
  · by_cases hji : j = i
    · subst hji
      rw [List.getElem?_set_self hi'] at hq
      rw [List.getElem?_set_ne hjk] at hq'
      cases hq
      exact hap k q' hq' (Ne.symm hjk)
    · rw [List.getElem?_set_ne (Ne.symm hji)] at hq
      by_cases hki : k = i
      · subst hki
        rw [List.getElem?_set_self hi'] at hq'
        cases hq'
        exact fun b hb hb' => hap j q hq hji b hb' hb
      · rw [List.getElem?_set_ne (Ne.symm hki)] at hq'
        exact h.apart j k q q' hq hq' hjk

end

/-- One more row. -/
theorem RUN_append_rowD {α : Type} [Flat α] {P : Program} {t e e' : TypeId} {bytes : Nat} {z : Value} (hT : SlT P t e' 1 bytes z) (hne : e ≠ e') {w : World} {base b1 : Nat} {s y r : Sl} {L : List (List α)} {ss : List Sl} {l : List α} (h : RowsD w base e e' s L ss) (hbase : base ≤ w.heap.size)
    (hr : OwnL w base e r l) (hnew : ∀ (j : Nat) (q : Sl), ss[j]? = some q → ∀ k, q.v.ownBlock = some k → r.v.ownBlock ≠ some k) (hy : OwnL w b1 e' y [r]) (hlen : (L.length + 1) * bytes ≤ 140737488355328) (hmax : L.length + 1 ≤ maxLen) {K : Sl → World → Prop}
    (hk : ∀ s' w', RowsD w' base e e' s' (L ++ [l]) (ss ++ [r]) → Step w w' s.v.ownBlock → K s' w') : RUN P (.at .sl) (bsem .append #[t, t] t #[s.v, y.v]) w K := by
  have hl2 := h.len
  refine RUN_append (α := Sl) hT h.own hbase (hy.rep fun _ _ => trivial).any (by simp [hl2]; exact hlen) (by simp [hl2]; exact hmax) fun s' w' hO hs => hk s' w' ⟨hO, by simp [hl2], fun i q m hq hm => ?_, fun i j q q' hq hq' hij => ?_⟩ hs
  · by_cases hi : i < ss.length
    · rw [List.getElem?_append_left hi] at hq
      rw [List.getElem?_append_left (by omega)] at hm
      exact (h.row i q m hq hm).step h.own hne hs
    · rw [List.getElem?_append_right (by omega)] at hq
      rw [List.getElem?_append_right (by omega), ← hl2] at hm
      have : i - ss.length = 0 := by
        have := (List.getElem?_eq_some_iff.1 hq).1
        simp at this; omega
      rw [this] at hq hm
      simp at hq hm
      subst hq; subst hm
      exact hr.step h.own hne hs
  · have hcase : ∀ {i : Nat} {q : Sl}, (ss ++ [r])[i]? = some q → (i < ss.length ∧ ss[i]? = some q) ∨ (i = ss.length ∧ q = r) := fun {i q} hq => by
      by_cases hi : i < ss.length
      · rw [List.getElem?_append_left hi] at hq; exact .inl ⟨hi, hq⟩
      · rw [List.getElem?_append_right (by omega)] at hq
        have h1 := (List.getElem?_eq_some_iff.1 hq).1
        simp at h1
        have h2 : i = ss.length := by omega
        subst h2
        simp at hq
        exact .inr ⟨rfl, hq.symm⟩
    rcases hcase hq with ⟨h1, h2⟩ | ⟨h1, rfl⟩ <;> rcases hcase hq' with ⟨h3, h4⟩ | ⟨h3, rfl⟩
    · exact h.apart i j q q' h2 h4 hij
    · exact hnew i q h2
    · exact fun k hk hk' => hnew j q' h4 k hk' hk
    · omega

/-- One more row, made behind the others. -/
theorem RowsD.fresh {α : Type} [Flat α] {w w' : World} {base b1 : Nat} {e e' : TypeId} {s r : Sl} {L : List (List α)} {ss : List Sl} {l : List α} (h : RowsD w base e e' s L ss) (hr : OwnL w' b1 e r l) (hb : w.heap.size ≤ b1) : ∀ (j : Nat) (q : Sl), ss[j]? = some q → ∀ k, q.v.ownBlock = some k → r.v.ownBlock ≠ some k := fun j q hq k hk hrk => by
  have hj : j < L.length := by rw [← h.len]; exact (List.getElem?_eq_some_iff.1 hq).1
  have h1 := ((h.row j q L[j] hq (by simp [hj])).blk k hk).2
  have h2 := (hr.blk k hrk).1
  omega

end Go.GX
