/- Distances in a network, and the search that finds them, in plain words: no program in sight. -/
import Derived.Test.YtoeaoinedidbiaaGreatNear
namespace Go.Proofs.YtoeaoinedidbiaaGreat

/-- A walk of k steps from v to x. -/
def Reach (E : Ends) (v : Nat) : Nat → Nat → Prop
  | 0, x => x = v
  | k + 1, x => ∃ y, Reach E v k y ∧ (x : Int) ∈ adjOf E y

/-- The list of all distances from v: -1 where no walk leads. -/
structure Dists (E : Ends) (v : Nat) (D : List Int) : Prop where
  len : D.length = E.length
  low : ∀ u, -1 ≤ D.getD u (-1)
  sound : ∀ u d : Nat, D.getD u (-1) = d → Reach E v d u
  least : ∀ k x, Reach E v k x → 0 ≤ D.getD x (-1) ∧ D.getD x (-1) ≤ k

theorem Dists.eq {E : Ends} {v : Nat} {D D' : List Int} (h : Dists E v D) (h' : Dists E v D') : D = D' := by
  have key : ∀ {A B : List Int}, Dists E v A → Dists E v B → ∀ u, 0 ≤ A.getD u (-1) → 0 ≤ B.getD u (-1) ∧ B.getD u (-1) ≤ A.getD u (-1) := by
    intro A B hA hB u hu
    obtain ⟨d, hd⟩ := Int.eq_ofNat_of_zero_le hu
    have := hB.least d u (hA.sound u d hd)
    rw [hd]
    exact this
  apply List.ext_getElem (by rw [h.len, h'.len])
  intro i h1 h2
  have e1 : D.getD i (-1) = D[i] := by simp [h1]
  have e2 : D'.getD i (-1) = D'[i] := by simp [h2]
  rw [← e1, ← e2]
  have l1 := h.low i
  have l2 := h'.low i
  by_cases hu : 0 ≤ D.getD i (-1)
  · have k1 := key h h' i hu
    have k2 := key h' h i k1.1
    omega
  · by_cases hu' : 0 ≤ D'.getD i (-1)
    · have k2 := key h' h i hu'
      omega
    · omega

/-- The distance of the queue's i-th node. -/
def dv (D W : List Int) (i : Nat) : Int := D.getD (W.getD i 0).toNat (-1)

/-- The search's state: the nodes found so far, in order; their distances; how many have been looked at. -/
structure Bfs (E : Ends) (v : Nat) (W D : List Int) (k : Nat) : Prop where
  len : D.length = E.length
  le : k ≤ W.length
  nodes : ∀ x ∈ W, ∃ u : Nat, x = u ∧ u < E.length
  nodup : W.Nodup
  mem : ∀ u : Nat, u < E.length → ((u : Int) ∈ W ↔ 0 ≤ D.getD u (-1))
  root : (v : Int) ∈ W
  zero : D.getD v (-1) = 0
  low : ∀ u, -1 ≤ D.getD u (-1)
  sound : ∀ u d : Nat, D.getD u (-1) = d → Reach E v d u
  mono : ∀ i j, i ≤ j → j < W.length → dv D W i ≤ dv D W j
  cap : k < W.length → ∀ j < W.length, dv D W j ≤ dv D W k + 1
  done : ∀ i < k, ∀ u : Nat, (u : Int) ∈ adjOf E (W.getD i 0).toNat → 0 ≤ D.getD u (-1) ∧ D.getD u (-1) ≤ dv D W i + 1
  small : ∀ u, D.getD u (-1) < W.length

theorem getD_set {D : List Int} {y : Nat} (hy : y < D.length) (x : Int) (u : Nat) : (D.set y x).getD u (-1) = if u = y then x else D.getD u (-1) := by
  by_cases h : u = y
  · subst h; simp [hy]
  · simp [h, List.getElem?_set_ne (Ne.symm h)]

theorem bfs_start {E : Ends} {v : Nat} (hv : v < E.length) : Bfs E v [(v : Int)] ((List.replicate E.length (-1)).set v 0) 0 := by
  have hg : ∀ u, ((List.replicate E.length (-1 : Int)).set v 0).getD u (-1) = if u = v then 0 else -1 := by
    intro u
    rw [getD_set (by simpa using hv)]
    by_cases h : u < E.length <;> simp [h]
  refine ⟨by simp, by simp, ?_, by simp, ?_, by simp, ?_, ?_, ?_, ?_, ?_, ?_, ?_⟩
  · intro x hx
    exact ⟨v, by simpa using hx, hv⟩
  · intro u hu
    rw [hg]
    by_cases h : u = v
    · simp [h]
    · simp [h]
      omega
  · rw [hg]; simp
  · intro u; rw [hg]; split <;> omega
  · intro u d h
    rw [hg] at h
    split at h
    · obtain rfl : d = 0 := by omega
      assumption
    · omega
  · intro i j hij hj
    simp at hj
    subst hj
    obtain rfl : i = 0 := by omega
    exact Int.le_refl _
  · intro _ j hj
    simp at hj
    subst hj
    omega
  · intro i hi; omega
  · intro u; rw [hg]; simp; split <;> omega

section
variable {E : Ends} {v k : Nat} {W D : List Int}

theorem Bfs.node (h : Bfs E v W D k) {i : Nat} (hi : i < W.length) : ∃ u : Nat, W[i] = u ∧ W.getD i 0 = u ∧ u < E.length ∧ 0 ≤ D.getD u (-1) ∧ dv D W i = D.getD u (-1) := by
  obtain ⟨u, hu, hul⟩ := h.nodes W[i] (List.getElem_mem hi)
  have hg : W.getD i 0 = u := by simp [hi, hu]
  refine ⟨u, hu, hg, hul, (h.mem u hul).1 (by rw [← hu]; exact List.getElem_mem hi), ?_⟩
  unfold dv
  rw [hg]
  simp

/-- A neighbour that has been found already. -/
theorem Bfs.seen (h : Bfs E v W D k) (hk : k < W.length) {y : Nat} (hy : y < E.length) (h0 : 0 ≤ D.getD y (-1)) : D.getD y (-1) ≤ dv D W k + 1 := by
  obtain ⟨j, hj, hjy⟩ := List.mem_iff_getElem.1 ((h.mem y hy).2 h0)
  obtain ⟨u, hu, _, _, _, hd⟩ := h.node hj
  have : u = y := by rw [hjy] at hu; omega
  subst this
  rw [← hd]
  exact h.cap hk j hj

/-- A neighbour that is found now. -/
theorem Bfs.add (h : Bfs E v W D k) (hk : k < W.length) {y : Nat} (hy : y < E.length) (ha : (y : Int) ∈ adjOf E (W.getD k 0).toNat) (hn : D.getD y (-1) < 0) :
    Bfs E v (W ++ [(y : Int)]) (D.set y (dv D W k + 1)) k := by
  have hyD : y < D.length := by rw [h.len]; exact hy
  have hg := getD_set hyD (dv D W k + 1)
  obtain ⟨c, _, hck, hcl, hc0, hcd⟩ := h.node hk
  have hdk : 0 ≤ dv D W k := by omega
  have hold : ∀ i, i < W.length → (W ++ [(y : Int)]).getD i 0 = W.getD i 0 := by
    intro i hi
    simp [List.getElem?_append_left hi]
  have hnew : (W ++ [(y : Int)]).getD W.length 0 = y := by simp
  have hdo : ∀ i, i < W.length → dv (D.set y (dv D W k + 1)) (W ++ [(y : Int)]) i = dv D W i := by
    intro i hi
    obtain ⟨u, _, hu, _, hu0, hud⟩ := h.node hi
    show (D.set y (dv D W k + 1)).getD ((W ++ [(y : Int)]).getD i 0).toNat (-1) = D.getD (W.getD i 0).toNat (-1)
    rw [hold i hi, hu, hg]
    simp only [Int.toNat_natCast]
    rw [if_neg (fun he => by subst he; omega)]
  have hdn : dv (D.set y (dv D W k + 1)) (W ++ [(y : Int)]) W.length = dv D W k + 1 := by
    show (D.set y (dv D W k + 1)).getD ((W ++ [(y : Int)]).getD W.length 0).toNat (-1) = _
    rw [hnew, hg]; simp
  have hyW : (y : Int) ∉ W := fun hm => by have := (h.mem y hy).1 hm; omega
  refine ⟨by simp [h.len], by have := h.le; simp; omega, ?_, ?_, ?_, by simp [h.root], ?_, ?_, ?_, ?_, ?_, ?_, ?_⟩
  · intro x hx
    rcases List.mem_append.1 hx with h1 | h1
    · exact h.nodes x h1
    · exact ⟨y, by simpa using h1, hy⟩
  · rw [List.nodup_append]
    refine ⟨h.nodup, by simp, fun a ha b hb hab => ?_⟩
    rw [List.mem_singleton.1 hb] at hab
    subst hab
    exact hyW ha
  · intro u hu
    rw [hg, List.mem_append, h.mem u hu]
    by_cases he : u = y
    · subst he; simp; omega
    · simp [he]
      omega
  · rw [hg]
    have := h.zero
    rw [if_neg (fun he => by subst he; omega)]
    exact h.zero
  · intro u
    rw [hg]
    split
    · omega
    · exact h.low u
  · intro u d hd
    rw [hg] at hd
    split at hd
    · rename_i he
      subst he
      obtain ⟨e, he⟩ := Int.eq_ofNat_of_zero_le hdk
      obtain rfl : d = e + 1 := by omega
      refine ⟨c, h.sound c e (by rw [← hcd]; exact he), ?_⟩
      rw [hck] at ha
      simpa using ha
    · exact h.sound u d hd
  · intro i j hij hj
    simp at hj
    rcases Nat.lt_or_eq_of_le (Nat.le_of_lt_succ hj) with h1 | h1
    · rw [hdo i (by omega), hdo j h1]; exact h.mono i j hij h1
    · subst h1
      rw [hdn]
      rcases Nat.lt_or_eq_of_le hij with h2 | h2
      · rw [hdo i h2]; exact h.cap hk i h2
      · subst h2; rw [hdn]; exact Int.le_refl _
  · intro _ j hj
    simp at hj
    rw [hdo k hk]
    rcases Nat.lt_or_eq_of_le (Nat.le_of_lt_succ hj) with h1 | h1
    · rw [hdo j h1]; exact h.cap hk j h1
    · subst h1; rw [hdn]; exact Int.le_refl _
  · intro i hi u hu
    rw [hold i (by omega)] at hu
    have := h.done i hi u hu
    rw [hdo i (by omega), hg]
    rw [if_neg (fun he => by subst he; omega)]
    exact this
  · intro u
    rw [hg]
    have h1 := h.small u
    have h2 := h.small c
    simp only [List.length_append, List.length_singleton]
    push_cast
    split <;> omega

/-- What was found before stays as it is. -/
theorem Bfs.add_dv (h : Bfs E v W D k) {y : Nat} (hy : y < E.length) (x : Int) (hn : D.getD y (-1) < 0) {i : Nat} (hi : i < W.length) : dv (D.set y x) (W ++ [(y : Int)]) i = dv D W i := by
  have hyD : y < D.length := by rw [h.len]; exact hy
  obtain ⟨u, _, hu, _, hu0, hud⟩ := h.node hi
  have hold : (W ++ [(y : Int)]).getD i 0 = W.getD i 0 := by simp [List.getElem?_append_left hi]
  unfold dv
  rw [hold, hu, getD_set hyD]
  simp only [Int.toNat_natCast]
  rw [if_neg (fun he => by subst he; omega)]

/-- All neighbours have been looked at. -/
theorem Bfs.next (h : Bfs E v W D k) (hk : k < W.length) (ha : ∀ u : Nat, (u : Int) ∈ adjOf E (W.getD k 0).toNat → 0 ≤ D.getD u (-1) ∧ D.getD u (-1) ≤ dv D W k + 1) : Bfs E v W D (k + 1) :=
  { h with
    le := hk
    cap := fun hk' j hj => by
      have h1 := h.cap hk j hj
      have h2 := h.mono k (k + 1) (by omega) hk'
      omega
    done := fun i hi u hu => by
      rcases Nat.lt_or_eq_of_le (Nat.le_of_lt_succ hi) with h1 | h1
      · exact h.done i h1 u hu
      · subst h1; exact ha u hu }

theorem adj_lt {y x : Nat} (h : (x : Int) ∈ adjOf E y) : y < E.length := by
  by_cases hy : y < E.length
  · exact hy
  · unfold adjOf rowOf at h
    simp [hy] at h

theorem Bfs.end (h : Bfs E v W D W.length) : Dists E v D := by
  refine ⟨h.len, h.low, h.sound, ?_⟩
  intro j
  induction j with
  | zero =>
    intro x hx
    have hx' : x = v := hx
    subst hx'
    rw [h.zero]
    exact ⟨by omega, by omega⟩
  | succ j ih =>
    rintro x ⟨y, hy, hx⟩
    have hyl := adj_lt hx
    obtain ⟨h0, h1⟩ := ih y hy
    obtain ⟨i, hi, hiy⟩ := List.mem_iff_getElem.1 ((h.mem y hyl).2 h0)
    obtain ⟨u, hu, hug, _, _, hd⟩ := h.node hi
    obtain rfl : u = y := by rw [hiy] at hu; omega
    have := h.done i hi x (by rw [hug]; simpa using hx)
    rw [hd] at this
    refine ⟨this.1, ?_⟩
    have h2 := this.2
    push_cast
    omega

theorem nodup_length : ∀ (n : Nat) (l : List Nat), l.Nodup → (∀ x ∈ l, x < n) → l.length ≤ n
  | 0, l, _, h => by
    cases l with
    | nil => simp
    | cons x r => exact absurd (h x (by simp)) (by omega)
  | n + 1, l, hd, h => by
    have h1 := nodup_length n (l.erase n) (hd.erase n) (fun x hx => by
      have hm := (hd.mem_erase_iff).1 hx
      have := h x hm.2
      omega)
    have h2 : l.length ≤ (l.erase n).length + 1 := by
      rw [List.length_erase]
      split <;> omega
    omega

theorem Bfs.size (h : Bfs E v W D k) : W.length ≤ E.length := by
  have := nodup_length E.length (W.map Int.toNat) (by
    rw [List.nodup_iff_pairwise_ne, List.pairwise_map]
    refine (List.nodup_iff_pairwise_ne.1 h.nodup).imp_of_mem ?_
    intro a b ha hb hab he
    obtain ⟨x, rfl, _⟩ := h.nodes a ha
    obtain ⟨y, rfl, _⟩ := h.nodes b hb
    simp at he
    exact hab (by omega)) (by
    intro x hx
    obtain ⟨a, ha, rfl⟩ := List.mem_map.1 hx
    obtain ⟨u, rfl, hu⟩ := h.nodes a ha
    simpa using hu)
  simpa using this
theorem Bfs.elems (h : Bfs E v W D k) : ∀ x ∈ D, -1 ≤ x ∧ x < W.length := by
  intro x hx
  obtain ⟨i, hi, rfl⟩ := List.mem_iff_getElem.1 hx
  have e1 : D.getD i (-1) = D[i] := by simp [hi]
  rw [← e1]
  exact ⟨h.low i, h.small i⟩
end

end Go.Proofs.YtoeaoinedidbiaaGreat
