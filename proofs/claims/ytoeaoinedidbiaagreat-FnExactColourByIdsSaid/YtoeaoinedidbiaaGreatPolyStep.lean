/- A round of colours by polynomials, in plain words: no program in sight. -/
import Derived.Test.YtoeaoinedidbiaaGreatRoots
import Derived.Test.YtoeaoinedidbiaaGreatReduce
namespace Go.Proofs.YtoeaoinedidbiaaGreat

/-- The lowest digits of a number. -/
def dg (q : Int) : Nat → Int → List Int
  | 0, _ => []
  | m + 1, c => c % q :: dg q m (c / q)

theorem dg_len (q : Int) : ∀ (m : Nat) (c : Int), (dg q m c).length = m
  | 0, _ => rfl
  | m + 1, c => by rw [dg, List.length_cons, dg_len q m]

theorem dg_range {q : Int} (hq : 0 < q) : ∀ (m : Nat) (c : Int), ∀ x ∈ dg q m c, 0 ≤ x ∧ x < q
  | 0, _, x, h => by cases h
  | m + 1, c, x, h => by
    rw [dg] at h
    rcases List.mem_cons.1 h with rfl | h
    · exact ⟨Int.emod_nonneg _ (by omega), Int.emod_lt_of_pos _ hq⟩
    · exact dg_range hq m _ x h

theorem dg_inj {q : Int} (hq : 0 < q) : ∀ (m : Nat) (c c' : Int), 0 ≤ c → c < q ^ m → 0 ≤ c' → c' < q ^ m → dg q m c = dg q m c' → c = c'
  | 0, c, c', h1, h2, h3, h4, _ => by rw [Int.pow_zero] at h2 h4; omega
  | m + 1, c, c', h1, h2, h3, h4, h => by
    rw [dg, dg] at h
    obtain ⟨h5, h6⟩ := List.cons.inj h
    rw [Int.pow_succ] at h2 h4
    have := dg_inj hq m (c / q) (c' / q) (Int.ediv_nonneg h1 (by omega)) (Int.ediv_lt_of_lt_mul hq h2) (Int.ediv_nonneg h3 (by omega)) (Int.ediv_lt_of_lt_mul hq h4) h6
    rw [← Int.mul_ediv_add_emod c q, ← Int.mul_ediv_add_emod c' q, h5, this]

/-! ### The colour of a node -/

def valC (q : Int) (d : Nat) (c : Int) (x : Nat) : Int := hvm q (dg q (d + 1) c) x
def freeAt (q : Int) (d : Nat) (own : Int) (near : List Int) (x : Nat) : Bool := near.all fun c => valC q d c x != valC q d own x
def takeX (q : Int) (d : Nat) (own : Int) (near : List Int) : Nat := ((List.range q.toNat).find? (freeAt q d own near)).getD 0
def takeC (q : Int) (d : Nat) (own : Int) (near : List Int) : Int := (takeX q d own near : Int) * q + valC q d own (takeX q d own near)
def stepAt (E : Ends) (q : Int) (d : Nat) (l : List Int) (v : Nat) : Int := takeC q d (l.getD v 0) (nearOf E l v)
def stepP (E : Ends) (q : Int) (d : Nat) (l : List Int) : List Int := (List.range E.length).map (stepAt E q d l)

/-- What a round asks of the colours. -/
structure ColK (n : Net) (l : List Int) (k a : Int) : Prop where
  good : Good n
  pal : 1 ≤ k ∧ k ≤ 1000000000000
  bound : 0 ≤ a ∧ a ≤ 6
  len : l.length = n.ends.length
  all : ∀ x ∈ l, 0 ≤ x ∧ x < k
  apart : ∀ v < n.ends.length, ∀ c ∈ nearOf n.ends l v, c ≠ l.getD v 0
  deg : ∀ v (hv : v < n.ends.length), (n.ends[v].length : Int) ≤ a

theorem ColK.near {n : Net} {l : List Int} {k a : Int} (h : ColK n l k a) {v : Nat} (hv : v < n.ends.length) : (∀ c ∈ nearOf n.ends l v, 0 ≤ c ∧ c < k ∧ c ≠ l.getD v 0) ∧ ((nearOf n.ends l v).length : Int) ≤ a ∧ 0 ≤ l.getD v 0 ∧ l.getD v 0 < k := by
  have hvl : v < l.length := by rw [h.len]; exact hv
  have hg : l.getD v 0 = l[v] := by simp [hvl]
  refine ⟨fun c hc => ?_, ?_, ?_⟩
  · have hm : c ∈ l := by
      rw [near_adj] at hc
      obtain ⟨u, hu, rfl⟩ := List.mem_map.1 hc
      obtain ⟨m, rfl, hm⟩ := adj_ok h.good hv u hu
      have hml : m < l.length := by rw [h.len]; exact hm
      simp [hml]
    exact ⟨(h.all c hm).1, (h.all c hm).2, h.apart v hv c hc⟩
  · rw [near_adj, List.length_map, adj_len h.good hv]; exact h.deg v hv
  · rw [hg]; exact h.all _ (List.getElem_mem hvl)

theorem Proper.apart {n : Net} (hg : Good n) {l : List Int} (hP : Proper n l) : ∀ v < n.ends.length, ∀ c ∈ nearOf n.ends l v, c ≠ l.getD v 0 := by
  intro v hv c hc he
  rw [near_adj] at hc
  obtain ⟨u, hu, rfl⟩ := List.mem_map.1 hc
  obtain ⟨m, rfl, hm⟩ := adj_ok hg hv u hu
  simp only [Int.toNat_natCast] at he
  rcases Nat.le_total v m with hle | hle
  · exact hP.2.2 ⟨v, m, hle, hv, hm, hu, he.symm⟩
  · refine hP.2.2 ⟨m, v, hle, hm, hv, ?_, he⟩
    obtain ⟨i, y, hp⟩ := (mem_adj hv).1 hu
    obtain ⟨_, hi, he'⟩ := port_some hp
    obtain ⟨x', y', hxy, _, hb⟩ := hg.far hv hi
    rw [he'] at hxy
    have : x' = m := by have := (Prod.mk.inj hxy).1; omega
    subst this
    exact (mem_adj hm).2 ⟨_, _, hb⟩

theorem PalAsked.colK {n : Net} {l : List Int} {k a : Int} (h : PalAsked n l k a) : ColK n l k a :=
  ⟨h.good, h.pal, h.bound, h.proper.1, fun x hx => by have := h.all x hx; omega, h.proper.apart h.good, fun v hv => h.deg hv⟩

/-! ### There is a colour -/

theorem PP.le43 {k a q : Int} {d : Nat} (h : PP k a q d) (hk : k ≤ 1000000000000) (ha : 0 ≤ a ∧ a ≤ 6) : q ≤ 43 := by
  obtain ⟨h1, _, h2, h3, h4⟩ := h
  by_cases hq : q ≤ 43
  · exact hq
  · exfalso
    have hp43 : Pr 43 := by
      refine ⟨by omega, fun d h1 h2 => ?_⟩
      have hd : d < 7 := by
        by_cases hd : d < 7
        · exact hd
        · have : 7 * 7 ≤ d * d := Int.mul_le_mul (by omega) (by omega) (by omega) (by omega)
          omega
      have : d = 2 ∨ d = 3 ∨ d = 4 ∨ d = 5 ∨ d = 6 := by omega
      rcases this with rfl | rfl | rfl | rfl | rfl <;> decide
    refine h4 43 hp43 (by omega) 7 ⟨by omega, by omega, ?_⟩
    have : (43 : Int) ^ (7 + 1) = 11688200277601 := rfl
    omega

theorem PP.deg {k a q : Int} {d : Nat} (h : PP k a q d) (hk : k ≤ 1000000000000) (ha : 0 ≤ a ∧ a ≤ 6) : d ≤ 40 := by
  obtain ⟨h1, _, h2, h3, h4⟩ := h
  by_cases hd : d ≤ 1
  · omega
  · have h5 := h3 (d - 1) (by omega)
    have hq2 := h1.1
    have hlt : q ^ (d - 1 + 1) < k := by
      apply Classical.byContradiction
      intro hc
      refine h5 ⟨by omega, ?_, by omega⟩
      have h6 := h2.2.1
      have : a * ((d - 1 : Nat) : Int) ≤ a * (d : Int) := Int.mul_le_mul_of_nonneg_left (by omega) ha.1
      omega
    have := exp_small hq2 hk hlt
    omega

theorem take_spec {k a q own : Int} {d : Nat} {near : List Int} (h : PP k a q d) (ho : 0 ≤ own ∧ own < k) (hn : ∀ c ∈ near, 0 ≤ c ∧ c < k ∧ c ≠ own) (hl : (near.length : Int) ≤ a) :
    takeX q d own near < q.toNat ∧ freeAt q d own near (takeX q d own near) = true ∧ ∀ y < takeX q d own near, freeAt q d own near y = false := by
  obtain ⟨h1, _, h2, h3, h4⟩ := h
  have hq2 := h1.1
  have hex : ∃ x < q.toNat, freeAt q d own near x = true := by
    apply Classical.byContradiction
    intro hc
    have hbad : ∀ x < q.toNat, ∃ c ∈ near, valC q d c x = valC q d own x := by
      intro x hx
      have hf : freeAt q d own near x ≠ true := fun hf => hc ⟨x, hx, hf⟩
      unfold freeAt at hf
      rw [ne_eq, Bool.not_eq_true, List.all_eq_false] at hf
      obtain ⟨c, hcm, hcf⟩ := hf
      exact ⟨c, hcm, by simpa using hcf⟩
    have hlen := few_hits (fun c x => decide (hvm q (dg q (d + 1) c) x = hvm q (dg q (d + 1) own) x)) d near ((List.range q.toNat).map fun (x : Nat) => (x : Int)) (fun x hx => by
      obtain ⟨y, hy, rfl⟩ := List.mem_map.1 hx
      obtain ⟨c, hcm, hce⟩ := hbad y (List.mem_range.1 hy)
      exact ⟨c, hcm, by simpa [valC] using hce⟩) (fun c hc M hM hMh => by
      apply Classical.byContradiction
      intro hgt
      obtain ⟨hc0, hck, hne⟩ := hn c hc
      refine hne (dg_inj (q := q) (by omega) (d + 1) c own hc0 (by have := h2.2.2; omega) ho.1 (by have := h2.2.2; omega) ?_)
      refine digits_eq h1 (X := M) (by rw [dg_len, dg_len]) (dg_range (by omega) _ _) (dg_range (by omega) _ _) (by rw [dg_len]; omega) ?_ fun x hx => ?_
      · exact hM.nodup (List.pairwise_map.2 (List.nodup_range.imp fun h e => h (by omega)))
      · obtain ⟨y, hy, rfl⟩ := List.mem_map.1 (hM.subset hx)
        have := List.mem_range.1 hy
        exact ⟨by omega, by omega, by simpa using hMh _ hx⟩)
    rw [List.length_map, List.length_range] at hlen
    have h5 := h2.2.1
    have h6 : (near.length : Int) * (d : Int) ≤ a * (d : Int) := Int.mul_le_mul_of_nonneg_right hl (by omega)
    have h7 : ((near.length * d : Nat) : Int) = (near.length : Int) * (d : Int) := by push_cast; rfl
    omega
  obtain ⟨x, hx, hfx⟩ := hex
  unfold takeX
  cases hf : (List.range q.toNat).find? (freeAt q d own near) with
  | none =>
    have := List.find?_eq_none.1 hf x (List.mem_range.2 hx)
    exact absurd hfx this
  | some z =>
    obtain ⟨h5, i, hi, hzi, hb⟩ := List.find?_eq_some_iff_getElem.1 hf
    rw [List.getElem_range] at hzi
    subst hzi
    rw [List.length_range] at hi
    refine ⟨hi, h5, fun y hy => ?_⟩
    have := hb y hy
    rw [List.getElem_range] at this
    simpa using this

theorem valC_range {q : Int} (hq : 0 < q) (d : Nat) (c : Int) (x : Nat) : 0 ≤ valC q d c x ∧ valC q d c x < q := by
  unfold valC
  rw [hvm_eq]
  exact ⟨Int.emod_nonneg _ (by omega), Int.emod_lt_of_pos _ hq⟩

/-- The colours of a round are colours. -/
theorem step_colK {n : Net} {l : List Int} {k a q : Int} {d : Nat} (h : ColK n l k a) (hP : PP k a q d) : ColK n (stepP n.ends q d l) (q * q) a := by
  have hq2 := hP.1.1
  have hq43 := hP.le43 h.pal.2 h.bound
  have hqq : 2 * 2 ≤ q * q ∧ q * q ≤ 43 * 43 := ⟨Int.mul_le_mul hq2 hq2 (by omega) (by omega), Int.mul_le_mul hq43 hq43 (by omega) (by omega)⟩
  have hlen : (stepP n.ends q d l).length = n.ends.length := by simp [stepP]
  have hget : ∀ v < n.ends.length, (stepP n.ends q d l).getD v 0 = stepAt n.ends q d l v := fun v hv => by simp [stepP, hv]
  refine ⟨h.good, ⟨by omega, by omega⟩, h.bound, hlen, fun x hx => ?_, fun v hv c hc => ?_, h.deg⟩
  · obtain ⟨v, hv, rfl⟩ := List.mem_map.1 hx
    have hv' := List.mem_range.1 hv
    obtain ⟨h1, h2, h3⟩ := h.near hv'
    obtain ⟨h4, _, _⟩ := take_spec hP h3 h1 h2
    unfold stepAt takeC
    generalize takeX q d (l.getD v 0) (nearOf n.ends l v) = X at *
    have h5 := valC_range (show 0 < q by omega) d (l.getD v 0) X
    have h6 : (X : Int) * q ≤ (q - 1) * q := Int.mul_le_mul_of_nonneg_right (by omega) (by omega)
    have h7 : 0 ≤ (X : Int) * q := Int.mul_nonneg (by omega) (by omega)
    rw [Int.sub_mul] at h6
    omega
  · rw [hget v hv]
    rw [near_adj] at hc
    obtain ⟨u, hu, rfl⟩ := List.mem_map.1 hc
    obtain ⟨m, rfl, hm⟩ := adj_ok h.good hv u hu
    simp only [Int.toNat_natCast]
    rw [hget m hm]
    intro he
    obtain ⟨h1, h2, h3⟩ := h.near hv
    obtain ⟨h4, h5, _⟩ := take_spec hP h3 h1 h2
    obtain ⟨h1', h2', h3'⟩ := h.near hm
    obtain ⟨h4', _, _⟩ := take_spec hP h3' h1' h2'
    have hin : l.getD m 0 ∈ nearOf n.ends l v := by rw [near_adj]; exact List.mem_map.2 ⟨_, hu, by simp⟩
    unfold stepAt takeC at he
    generalize takeX q d (l.getD v 0) (nearOf n.ends l v) = X at *
    generalize takeX q d (l.getD m 0) (nearOf n.ends l m) = Y at *
    have h6 := valC_range (show 0 < q by omega) d (l.getD v 0) X
    have h7 := valC_range (show 0 < q by omega) d (l.getD m 0) Y
    have hXY : (Y : Int) = X := by
      rcases Int.lt_trichotomy (Y : Int) X with hlt | heq | hgt
      · have : ((Y : Int) + 1) * q ≤ X * q := Int.mul_le_mul_of_nonneg_right (by omega) (by omega)
        rw [Int.add_mul] at this
        omega
      · exact heq
      · have : ((X : Int) + 1) * q ≤ Y * q := Int.mul_le_mul_of_nonneg_right (by omega) (by omega)
        rw [Int.add_mul] at this
        omega
    have hXY' : Y = X := by omega
    subst hXY'
    unfold freeAt at h5
    rw [List.all_eq_true] at h5
    have h8 := h5 _ hin
    have h9 : valC q d (l.getD m 0) Y = valC q d (l.getD v 0) Y := by omega
    rw [h9] at h8
    simp at h8

end Go.Proofs.YtoeaoinedidbiaaGreat
