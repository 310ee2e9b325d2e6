/- Own texts, merged: Dist, WalkPure, Values, Sorted, Edges, Col, Match, Sets, Max, Write, Mark, Lib, Order, RowsD, Mat, Conf, RootPure, WalkI1, WalkI2, WalkI3, RowsR, WalkI4. -/
import Derived.Test.YtfiginahjofdnaaGreatM2
import Derived.RangeFuncBox
import Derived.RangeFuncLeaves
import Derived.Shelf.Abstract
import Derived.WalkKit
import Derived.OwnWalkIn
import Derived.TacticsInMore
import Derived.LoopNIn
import Derived.LoopIn
import Derived.Test.YtfiginahjofdnaaGreatProg
import Derived.Maps.AppendAt
set_option linter.unusedVariables false
section
/- Distances in a network, and the search that finds them, in plain words: no program in sight. -/
namespace Go.Proofs.YtfiginahjofdnaaGreat

/-- A walk of k steps from v to x. -/
def Reach (E : Ends) (v : Nat) : Nat → Nat → Prop
  | 0, x => x = v
  | k + 1, x => ∃ y, Reach E v k y ∧ (x : Int) ∈ adjOf E y

/-- The list of all distances from v: -1 where no walk leads. -/
structure Dists (E : Ends) (v : Nat) (D : List Int) : Prop where
  len : D.length = E.length
  low : ∀ u, -1 ≤ D.getD u (-1)
  sound : ∀ u d : Nat, D.getD u (-1) = d → Reach E v d u
  least : ∀ k x, Reach E v k x → 0 ≤ D.getD x (-1) ∧ D.getD x (-1) ≤ k

theorem Dists.eq {E : Ends} {v : Nat} {D D' : List Int} (h : Dists E v D) (h' : Dists E v D') : D = D' := by
  have key : ∀ {A B : List Int}, Dists E v A → Dists E v B → ∀ u, 0 ≤ A.getD u (-1) → 0 ≤ B.getD u (-1) ∧ B.getD u (-1) ≤ A.getD u (-1) := by
    intro A B hA hB u hu
    obtain ⟨d, hd⟩ := Int.eq_ofNat_of_zero_le hu
    have := hB.least d u (hA.sound u d hd)
    rw [hd]
    exact this
  apply List.ext_getElem (by rw [h.len, h'.len])
  intro i h1 h2
  have e1 : D.getD i (-1) = D[i] := by simp [h1]
  have e2 : D'.getD i (-1) = D'[i] := by simp [h2]
  rw [← e1, ← e2]
  have l1 := h.low i
  have l2 := h'.low i
  by_cases hu : 0 ≤ D.getD i (-1)
  · have k1 := key h h' i hu
    have k2 := key h' h i k1.1
    omega
  · by_cases hu' : 0 ≤ D'.getD i (-1)
    · have k2 := key h' h i hu'
      omega
    · omega

/-- The distance of the queue's i-th node. -/
def dv (D W : List Int) (i : Nat) : Int := D.getD (W.getD i 0).toNat (-1)

/-- The search's state: the nodes found so far, in order; their distances; how many have been looked at. -/
structure Bfs (E : Ends) (v : Nat) (W D : List Int) (k : Nat) : Prop where
  len : D.length = E.length
  le : k ≤ W.length
  nodes : ∀ x ∈ W, ∃ u : Nat, x = u ∧ u < E.length
  nodup : W.Nodup
  mem : ∀ u : Nat, u < E.length → ((u : Int) ∈ W ↔ 0 ≤ D.getD u (-1))
  root : (v : Int) ∈ W
  zero : D.getD v (-1) = 0
  low : ∀ u, -1 ≤ D.getD u (-1)
  sound : ∀ u d : Nat, D.getD u (-1) = d → Reach E v d u
  mono : ∀ i j, i ≤ j → j < W.length → dv D W i ≤ dv D W j
  cap : k < W.length → ∀ j < W.length, dv D W j ≤ dv D W k + 1
  done : ∀ i < k, ∀ u : Nat, (u : Int) ∈ adjOf E (W.getD i 0).toNat → 0 ≤ D.getD u (-1) ∧ D.getD u (-1) ≤ dv D W i + 1
  small : ∀ u, D.getD u (-1) < W.length

theorem getD_set {D : List Int} {y : Nat} (hy : y < D.length) (x : Int) (u : Nat) : (D.set y x).getD u (-1) = if u = y then x else D.getD u (-1) := by
  by_cases h : u = y
  · subst h; simp [hy]
  · simp [h, List.getElem?_set_ne (Ne.symm h)]

section
variable {E : Ends} {v k : Nat} {W D : List Int}

theorem Bfs.node (h : Bfs E v W D k) {i : Nat} (hi : i < W.length) : ∃ u : Nat, W[i] = u ∧ W.getD i 0 = u ∧ u < E.length ∧ 0 ≤ D.getD u (-1) ∧ dv D W i = D.getD u (-1) := by
  obtain ⟨u, hu, hul⟩ := h.nodes W[i] (List.getElem_mem hi)
  have hg : W.getD i 0 = u := by simp [hi, hu]
  refine ⟨u, hu, hg, hul, (h.mem u hul).1 (by rw [← hu]; exact List.getElem_mem hi), ?_⟩
  unfold dv
  rw [hg]
  simp

/-- A neighbour that is found now. -/
theorem Bfs.add (h : Bfs E v W D k) (hk : k < W.length) {y : Nat} (hy : y < E.length) (ha : (y : Int) ∈ adjOf E (W.getD k 0).toNat) (hn : D.getD y (-1) < 0) :
    Bfs E v (W ++ [(y : Int)]) (D.set y (dv D W k + 1)) k := by
  have hyD : y < D.length := by rw [h.len]; exact hy
  have hg := getD_set hyD (dv D W k + 1)
  obtain ⟨c, _, hck, hcl, hc0, hcd⟩ := h.node hk
  have hdk : 0 ≤ dv D W k := by omega
  have hold : ∀ i, i < W.length → (W ++ [(y : Int)]).getD i 0 = W.getD i 0 := by
    intro i hi
    simp [List.getElem?_append_left hi]
  have hnew : (W ++ [(y : Int)]).getD W.length 0 = y := by simp
  have hdo : ∀ i, i < W.length → dv (D.set y (dv D W k + 1)) (W ++ [(y : Int)]) i = dv D W i := by
    intro i hi
    obtain ⟨u, _, hu, _, hu0, hud⟩ := h.node hi
    show (D.set y (dv D W k + 1)).getD ((W ++ [(y : Int)]).getD i 0).toNat (-1) = D.getD (W.getD i 0).toNat (-1)
    rw [hold i hi, hu, hg]
    simp only [Int.toNat_natCast]
    rw [if_neg (fun he => by subst he; omega)]
  have hdn : dv (D.set y (dv D W k + 1)) (W ++ [(y : Int)]) W.length = dv D W k + 1 := by
    show (D.set y (dv D W k + 1)).getD ((W ++ [(y : Int)]).getD W.length 0).toNat (-1) = _
    rw [hnew, hg]; simp
  have hyW : (y : Int) ∉ W := fun hm => by have := (h.mem y hy).1 hm; omega
  refine ⟨by simp [h.len], by have := h.le; simp; omega, ?_, ?_, ?_, by simp [h.root], ?_, ?_, ?_, ?_, ?_, ?_, ?_⟩
  · intro x hx
    rcases List.mem_append.1 hx with h1 | h1
    · exact h.nodes x h1
    · exact ⟨y, by simpa using h1, hy⟩
  · rw [List.nodup_append]
    refine ⟨h.nodup, by simp, fun a ha b hb hab => ?_⟩
    rw [List.mem_singleton.1 hb] at hab
    subst hab
    exact hyW ha
  · intro u hu
    rw [hg, List.mem_append, h.mem u hu]
    by_cases he : u = y
    · subst he; simp; omega
    · simp [he]
      omega
  · rw [hg]
    have := h.zero
    rw [if_neg (fun he => by subst he; omega)]
    exact h.zero
  · intro u
    rw [hg]
    split
    · omega
    · exact h.low u
  · intro u d hd
    rw [hg] at hd
    split at hd
    · rename_i he
      subst he
      obtain ⟨e, he⟩ := Int.eq_ofNat_of_zero_le hdk
      obtain rfl : d = e + 1 := by omega
      refine ⟨c, h.sound c e (by rw [← hcd]; exact he), ?_⟩
      rw [hck] at ha
      simpa using ha
    · exact h.sound u d hd
  · intro i j hij hj
    simp at hj
    rcases Nat.lt_or_eq_of_le (Nat.le_of_lt_succ hj) with h1 | h1
    · rw [hdo i (by omega), hdo j h1]; exact h.mono i j hij h1
    · subst h1
      rw [hdn]
      rcases Nat.lt_or_eq_of_le hij with h2 | h2
      · rw [hdo i h2]; exact h.cap hk i h2
      · subst h2; rw [hdn]; exact Int.le_refl _
  · intro _ j hj
    simp at hj
    rw [hdo k hk]
    rcases Nat.lt_or_eq_of_le (Nat.le_of_lt_succ hj) with h1 | h1
    · rw [hdo j h1]; exact h.cap hk j h1
    · subst h1; rw [hdn]; exact Int.le_refl _
  · intro i hi u hu
    rw [hold i (by omega)] at hu
    have := h.done i hi u hu
    rw [hdo i (by omega), hg]
    rw [if_neg (fun he => by subst he; omega)]
    exact this
  · intro u
    rw [hg]
    have h1 := h.small u
    have h2 := h.small c
    simp only [List.length_append, List.length_singleton]
    push_cast
    split <;> omega

/-- All neighbours have been looked at. -/
theorem Bfs.next (h : Bfs E v W D k) (hk : k < W.length) (ha : ∀ u : Nat, (u : Int) ∈ adjOf E (W.getD k 0).toNat → 0 ≤ D.getD u (-1) ∧ D.getD u (-1) ≤ dv D W k + 1) : Bfs E v W D (k + 1) :=
  { h with
    le := hk
    cap := fun hk' j hj => by
      have h1 := h.cap hk j hj
      have h2 := h.mono k (k + 1) (by omega) hk'
      omega
    done := fun i hi u hu => by
      rcases Nat.lt_or_eq_of_le (Nat.le_of_lt_succ hi) with h1 | h1
      · exact h.done i h1 u hu
      · subst h1; exact ha u hu }

theorem adj_lt {y x : Nat} (h : (x : Int) ∈ adjOf E y) : y < E.length := by
  by_cases hy : y < E.length
  · exact hy
  · unfold adjOf rowOf at h
    simp [hy] at h

theorem Bfs.end (h : Bfs E v W D W.length) : Dists E v D := by
  refine ⟨h.len, h.low, h.sound, ?_⟩
  intro j
  induction j with
  | zero =>
    intro x hx
    have hx' : x = v := hx
    subst hx'
    rw [h.zero]
    exact ⟨by omega, by omega⟩
  | succ j ih =>
    rintro x ⟨y, hy, hx⟩
    have hyl := adj_lt hx
    obtain ⟨h0, h1⟩ := ih y hy
    obtain ⟨i, hi, hiy⟩ := List.mem_iff_getElem.1 ((h.mem y hyl).2 h0)
    obtain ⟨u, hu, hug, _, _, hd⟩ := h.node hi
    obtain rfl : u = y := by rw [hiy] at hu; omega
    have := h.done i hi x (by rw [hug]; simpa using hx)
    rw [hd] at this
    refine ⟨this.1, ?_⟩
    have h2 := this.2
    push_cast
    omega

theorem nodup_length : ∀ (n : Nat) (l : List Nat), l.Nodup → (∀ x ∈ l, x < n) → l.length ≤ n
  | 0, l, _, h => by
    cases l with
    | nil => simp
    | cons x r => exact absurd (h x (by simp)) (by omega)
  | n + 1, l, hd, h => by
    have h1 := nodup_length n (l.erase n) (hd.erase n) (fun x hx => by
      have hm := (hd.mem_erase_iff).1 hx
      have := h x hm.2
      omega)
    have h2 : l.length ≤ (l.erase n).length + 1 := by
      rw [List.length_erase]
      split <;> omega
    omega

theorem Bfs.size (h : Bfs E v W D k) : W.length ≤ E.length := by
  have := nodup_length E.length (W.map Int.toNat) (by
    rw [List.nodup_iff_pairwise_ne, List.pairwise_map]
    refine (List.nodup_iff_pairwise_ne.1 h.nodup).imp_of_mem ?_
    intro a b ha hb hab he
    obtain ⟨x, rfl, _⟩ := h.nodes a ha
    obtain ⟨y, rfl, _⟩ := h.nodes b hb
    simp at he
    exact hab (by omega)) (by
    intro x hx
    obtain ⟨a, ha, rfl⟩ := List.mem_map.1 hx
    obtain ⟨u, rfl, hu⟩ := h.nodes a ha
    simpa using hu)
  simpa using this
end

end Go.Proofs.YtfiginahjofdnaaGreat
end

section
/- Plain facts on walks: shortening, components, periods, flexible labels. No program in sight. -/
namespace Go.Proofs.YtfiginahjofdnaaGreat
set_option maxRecDepth 100000

/-- A walk of some length. -/
def Wk (E : Nat → Nat → Prop) : Nat → Nat → Nat → Prop
  | 0, a, b => a = b
  | k + 1, a, b => ∃ c, Wk E k a c ∧ E c b

section
variable {E : Nat → Nat → Prop} {a b c r u v j k n : Nat}

theorem Wk.cat (h : Wk E j a b) : ∀ {k c}, Wk E k b c → Wk E (j + k) a c
  | 0, _, h2 => by cases h2; exact h
  | k + 1, _, ⟨d, h2, h3⟩ => ⟨d, Wk.cat h h2, h3⟩
theorem Wk.one (h : E a b) : Wk E 1 a b := ⟨a, rfl, h⟩
theorem Wk.cons (h : E a b) (h2 : Wk E k b c) : Wk E (k + 1) a c := by
  have := (Wk.one h).cat h2
  rwa [Nat.add_comm] at this
theorem Wk.lt (hE : ∀ x y, E x y → y < n) : ∀ {k b}, Wk E k a b → 1 ≤ k → b < n
  | _ + 1, _, ⟨_, _, h⟩, _ => hE _ _ h
/-- The labels of a walk. -/
theorem Wk.path : ∀ {k b}, Wk E k a b → ∃ v : Nat → Nat, v 0 = a ∧ v k = b ∧ ∀ i, i < k → E (v i) (v (i + 1))
  | 0, _, h => by cases h; exact ⟨fun _ => a, rfl, rfl, fun i hi => by omega⟩
  | k + 1, b, ⟨c, h, he⟩ => by
    obtain ⟨v, h0, hk, hs⟩ := Wk.path h
    refine ⟨fun i => if i = k + 1 then b else v i, ?_, ?_, fun i hi => ?_⟩
    · simp only [if_neg (show (0 : Nat) ≠ k + 1 by omega)]; exact h0
    · simp
    · by_cases hi2 : i = k
      · subst hi2
        simp only [if_neg (show i ≠ i + 1 by omega), if_true]
        rw [hk]; exact he
      · simp only [if_neg (show i ≠ k + 1 by omega), if_neg (show i + 1 ≠ k + 1 by omega)]
        exact hs i (by omega)
theorem Wk.of_path {v : Nat → Nat} (hs : ∀ i, i < k → E (v i) (v (i + 1))) : ∀ {i j}, i ≤ j → j ≤ k → Wk E (j - i) (v i) (v j) := by
  intro i j hij hjk
  obtain ⟨d, rfl⟩ : ∃ d, j = i + d := ⟨j - i, by omega⟩
  rw [Nat.add_sub_cancel_left]
  clear hij
  induction d with
  | zero => exact rfl
  | succ d ih => exact ⟨v (i + d), ih (by omega), hs (i + d) (by omega)⟩

/-- A walk that isn't longer than the number of labels. -/
theorem Wk.short (hE : ∀ x y, E x y → y < n) : ∀ {k a b}, Wk E k a b → 1 ≤ k → ∃ k', 1 ≤ k' ∧ k' ≤ n ∧ Wk E k' a b := by
  intro k
  induction k using Nat.strongRecOn with
  | ind k ih =>
    intro a b h hk
    by_cases hkn : k ≤ n
    · exact ⟨k, hk, hkn, h⟩
    · obtain ⟨v, h0, hb, hs⟩ := h.path
      by_cases hinj : ∃ i j, 1 ≤ i ∧ i < j ∧ j ≤ k ∧ v i = v j
      · obtain ⟨i, j, h1, h2, h3, h4⟩ := hinj
        have w1 := Wk.of_path hs (i := 0) (j := i) (by omega) (by omega)
        have w2 := Wk.of_path hs (i := j) (j := k) (by omega) (by omega)
        rw [h0, h4] at w1
        rw [hb] at w2
        have w := w1.cat w2
        exact ih (i - 0 + (k - j)) (by omega) w (by omega)
      · exfalso
        have hlen := nodup_length n ((List.range k).map fun i => v (i + 1)) (by
          unfold List.Nodup
          rw [List.pairwise_map, List.pairwise_iff_getElem]
          intro i j hi hj hij
          simp only [List.length_range] at hi hj
          simp only [List.getElem_range]
          intro he
          exact hinj ⟨i + 1, j + 1, by omega, by omega, by omega, he⟩) (fun x hx => by
          obtain ⟨i, hi, rfl⟩ := List.mem_map.1 hx
          exact hE _ _ (hs i (List.mem_range.1 hi)))
        rw [List.length_map, List.length_range] at hlen
        omega

/-- Labels that walks lead to and from. -/
def Comp (E : Nat → Nat → Prop) (r b : Nat) : Prop := (∃ k, Wk E k r b) ∧ ∃ k, Wk E k b r
theorem Comp.refl : Comp E r r := ⟨⟨0, rfl⟩, ⟨0, rfl⟩⟩
theorem Comp.symm (h : Comp E a b) : Comp E b a := ⟨h.2, h.1⟩
theorem Comp.trans (h : Comp E a b) (h2 : Comp E b c) : Comp E a c := by
  obtain ⟨⟨j, p⟩, k, q⟩ := h
  obtain ⟨⟨j', p'⟩, k', q'⟩ := h2
  exact ⟨⟨_, p.cat p'⟩, _, q'.cat q⟩

/-- A divisor of the lengths of closed walks. -/
def PerDiv (E : Nat → Nat → Prop) (r g : Nat) : Prop := ∀ k, Wk E k r r → g ∣ k
def Flex (E : Nat → Nat → Prop) (a : Nat) : Prop := (∃ k, 0 < k ∧ Wk E k a a) ∧ ∀ g, PerDiv E a g → g = 1

theorem PerDiv.comp {g : Nat} (h : Comp E a b) (hg : PerDiv E a g) : PerDiv E b g := fun k hk => by
  obtain ⟨⟨j, p⟩, i, q⟩ := h
  have h1 := hg _ (p.cat q)
  have h2 := hg _ ((p.cat hk).cat q)
  have h3 : j + k + i = j + i + k := by omega
  rw [h3] at h2
  exact (Nat.dvd_add_right h1).1 h2
theorem Flex.comp (h : Comp E a b) (hf : Flex E a) : Flex E b := by
  obtain ⟨⟨k, h0, hk⟩, hg⟩ := hf
  refine ⟨?_, fun g hb => hg g (hb.comp h.symm)⟩
  obtain ⟨⟨j, p⟩, i, q⟩ := h
  exact ⟨i + k + j, by omega, (q.cat hk).cat p⟩

/-- The divisors of all steps of a potential are those of all closed walks. -/
theorem pot_div {d : Nat → Int} (h0 : d r = 0) (hd : ∀ b, Comp E r b → ∃ k : Nat, d b = k ∧ Wk E k r b) (g : Nat) :
    (∀ u v, Comp E r u → Comp E r v → E u v → (g : Int) ∣ d u + 1 - d v) ↔ PerDiv E r g := by
  constructor
  · intro h
    have go : ∀ k b, Comp E r b → Wk E k r b → (g : Int) ∣ (k : Int) - d b := by
      intro k
      induction k with
      | zero => intro b _ hw; cases hw; rw [h0]; simp
      | succ k ih =>
        intro b hb hw
        obtain ⟨c, hc, he⟩ := hw
        have hcc : Comp E r c := by
          obtain ⟨i, q⟩ := hb.2
          exact ⟨⟨k, hc⟩, _, (Wk.one he).cat q⟩
        have h1 := ih c hcc hc
        have h2 := h c b hcc hb he
        have h3 := Int.dvd_add h1 h2
        have e : ((k : Int) - d c) + (d c + 1 - d b) = ((k + 1 : Nat) : Int) - d b := by push_cast; omega
        rwa [e] at h3
    intro k hk
    have := go k r Comp.refl hk
    rw [h0, Int.sub_zero] at this
    exact Int.natCast_dvd_natCast.1 this
  · intro hg u v hu hv he
    obtain ⟨i, hi, wi⟩ := hd u hu
    obtain ⟨j, hj, wj⟩ := hd v hv
    obtain ⟨k, q⟩ := hv.2
    have h1 := hg _ ((wi.cat (Wk.one he)).cat q)
    have h2 := hg _ (wj.cat q)
    have h3 := Int.dvd_sub (Int.natCast_dvd_natCast.2 h1) (Int.natCast_dvd_natCast.2 h2)
    have e : (((i + 1 + k : Nat) : Int) - ((j + k : Nat) : Int)) = d u + 1 - d v := by rw [hi, hj]; push_cast; omega
    rwa [e] at h3

/-- The period by a number whose divisors are those of all steps. -/
theorem flex_of {P : Nat} (hP : ∀ g : Nat, g ∣ P ↔ PerDiv E r g) (hc : ∃ k, 0 < k ∧ Wk E k r r) : (P = 1 ↔ Flex E r) ∧ P ≠ 0 := by
  constructor
  · constructor
    · intro h
      subst h
      exact ⟨hc, fun g hg => Nat.dvd_one.1 ((hP g).2 hg)⟩
    · intro h
      exact h.2 P ((hP P).1 (Nat.dvd_refl P))
  · intro h0
    subst h0
    obtain ⟨k, h1, h2⟩ := hc
    have := (hP 0).1 (Nat.dvd_refl 0) k h2
    have := Nat.zero_dvd.1 this
    omega

end

noncomputable def flexL (E : Nat → Nat → Prop) (n : Nat) : List Int := by
  classical exact ((List.range n).filter (fun a => decide (Flex E a))).map fun a : Nat => (a : Int)

theorem flexL_mem {E : Nat → Nat → Prop} {n : Nat} {x : Int} : x ∈ flexL E n ↔ ∃ a : Nat, x = a ∧ a < n ∧ Flex E a := by
  classical
  unfold flexL
  rw [List.mem_map]
  constructor
  · rintro ⟨a, ha, rfl⟩
    rw [List.mem_filter] at ha
    exact ⟨a, rfl, List.mem_range.1 ha.1, by simpa using ha.2⟩
  · rintro ⟨a, rfl, h1, h2⟩
    exact ⟨a, List.mem_filter.2 ⟨List.mem_range.2 h1, by simpa using h2⟩, rfl⟩

theorem flexL_sorted (E : Nat → Nat → Prop) (n : Nat) : (flexL E n).Pairwise (· < ·) := by
  classical
  unfold flexL
  rw [List.pairwise_map]
  exact (List.pairwise_lt_range.filter _).imp fun h => by omega

/-! ### Components by their roots -/

noncomputable def compL (E : Nat → Nat → Prop) (n r : Nat) : List Int := by
  classical exact ((List.range n).filter (fun a => decide (Comp E r a))).map fun a : Nat => (a : Int)
theorem compL_mem {E : Nat → Nat → Prop} {n r : Nat} {x : Int} : x ∈ compL E n r ↔ ∃ a : Nat, x = a ∧ a < n ∧ Comp E r a := by
  classical
  unfold compL
  rw [List.mem_map]
  constructor
  · rintro ⟨a, ha, rfl⟩
    rw [List.mem_filter] at ha
    exact ⟨a, rfl, List.mem_range.1 ha.1, by simpa using ha.2⟩
  · rintro ⟨a, rfl, h1, h2⟩
    exact ⟨a, List.mem_filter.2 ⟨List.mem_range.2 h1, by simpa using h2⟩, rfl⟩
theorem compL_mem' {E : Nat → Nat → Prop} {n r b : Nat} : (b : Int) ∈ compL E n r ↔ b < n ∧ Comp E r b := by
  rw [compL_mem]
  exact ⟨fun ⟨a, e, h⟩ => by have : b = a := by omega
                             subst this; exact h, fun h => ⟨b, rfl, h⟩⟩
theorem compL_sorted (E : Nat → Nat → Prop) (n r : Nat) : (compL E n r).Pairwise (· < ·) := by
  classical
  unfold compL
  rw [List.pairwise_map]
  exact (List.pairwise_lt_range.filter _).imp fun h => by omega
theorem compL_len (E : Nat → Nat → Prop) (n r : Nat) : (compL E n r).length ≤ n := by
  classical
  unfold compL
  rw [List.length_map]
  have := List.length_filter_le (fun a => decide (Comp E r a)) (List.range n)
  rwa [List.length_range] at this

/-- The roots of the components with closed walks, of the labels below a number. -/
structure Roots (E : Nat → Nat → Prop) (a : Nat) (rs : List Nat) : Prop where
  lt : ∀ r ∈ rs, r < a
  cyc : ∀ r ∈ rs, ∃ k, 0 < k ∧ Wk E k r r
  apart : rs.Pairwise fun r q => ¬ Comp E r q
  cover : ∀ b, b < a → (∃ k, 0 < k ∧ Wk E k b b) → ∃ r ∈ rs, Comp E r b

theorem Roots.nil (E : Nat → Nat → Prop) : Roots E 0 [] := ⟨by simp, by simp, List.Pairwise.nil, fun b hb => by omega⟩
theorem Roots.skip {E : Nat → Nat → Prop} {a : Nat} {rs : List Nat} (h : Roots E a rs) (hs : (∃ k, 0 < k ∧ Wk E k a a) → ∃ r ∈ rs, Comp E r a) : Roots E (a + 1) rs :=
  ⟨fun r hr => by have := h.lt r hr; omega, h.cyc, h.apart, fun b hb hc => by
    rcases Nat.lt_or_eq_of_le (Nat.le_of_lt_succ hb) with h1 | rfl
    · exact h.cover b h1 hc
    · exact hs hc⟩
theorem Roots.add {E : Nat → Nat → Prop} {a : Nat} {rs : List Nat} (h : Roots E a rs) (hc : ∃ k, 0 < k ∧ Wk E k a a) (hn : ∀ r ∈ rs, ¬ Comp E r a) : Roots E (a + 1) (rs ++ [a]) :=
  ⟨fun r hr => by
    rcases List.mem_append.1 hr with hr | hr
    · have := h.lt r hr; omega
    · rw [List.mem_singleton.1 hr]; omega, fun r hr => by
    rcases List.mem_append.1 hr with hr | hr
    · exact h.cyc r hr
    · rw [List.mem_singleton.1 hr]; exact hc, by
    rw [List.pairwise_append]
    exact ⟨h.apart, List.pairwise_singleton _ _, fun r hr q hq => by rw [List.mem_singleton.1 hq]; exact hn r hr⟩, fun b hb hcb => by
    rcases Nat.lt_or_eq_of_le (Nat.le_of_lt_succ hb) with h1 | rfl
    · obtain ⟨r, hr, hx⟩ := h.cover b h1 hcb
      exact ⟨r, List.mem_append_left _ hr, hx⟩
    · exact ⟨b, by simp, Comp.refl⟩⟩
theorem cyc_comp {E : Nat → Nat → Prop} {a b : Nat} (h : Comp E a b) (hc : ∃ k, 0 < k ∧ Wk E k a a) : ∃ k, 0 < k ∧ Wk E k b b := by
  obtain ⟨k, h0, hk⟩ := hc
  obtain ⟨⟨j, p⟩, i, q⟩ := h
  exact ⟨i + k + j, by omega, (q.cat hk).cat p⟩
/-- A step within a component is a closed walk of its root. -/
theorem cyc_iff {E : Nat → Nat → Prop} {a : Nat} : (∃ b c, Comp E a b ∧ Comp E a c ∧ E b c) ↔ ∃ k, 0 < k ∧ Wk E k a a := by
  constructor
  · rintro ⟨b, c, ⟨⟨j, p⟩, _⟩, ⟨_, i, q⟩, he⟩
    exact ⟨j + 1 + i, by omega, (p.cat (Wk.one he)).cat q⟩
  · rintro ⟨k, hk, hw⟩
    obtain ⟨k, rfl⟩ : ∃ j, k = j + 1 := ⟨k - 1, by omega⟩
    obtain ⟨c, h1, h2⟩ := hw
    exact ⟨c, a, ⟨⟨k, h1⟩, 1, Wk.one h2⟩, Comp.refl, h2⟩

/-- The labels of the flexible components, in any order, without repetition. -/
theorem flex_roots {E : Nat → Nat → Prop} {n : Nat} {rs : List Nat} (h : Roots E n rs) {fs : List Nat} (hf : ∀ r, r ∈ fs ↔ r ∈ rs ∧ Flex E r) : ∀ x, x ∈ fs.flatMap (compL E n) ↔ x ∈ flexL E n := fun x => by
  rw [List.mem_flatMap, flexL_mem]
  constructor
  · rintro ⟨r, hr, hx⟩
    obtain ⟨b, rfl, hb, hc⟩ := compL_mem.1 hx
    exact ⟨b, rfl, hb, ((hf r).1 hr).2.comp hc⟩
  · rintro ⟨b, rfl, hb, hF⟩
    obtain ⟨r, hr, hc⟩ := h.cover b hb hF.1
    exact ⟨r, (hf r).2 ⟨hr, hF.comp hc.symm⟩, compL_mem'.2 ⟨hb, hc⟩⟩
theorem flex_nodup {E : Nat → Nat → Prop} {n : Nat} {fs : List Nat} (h : fs.Pairwise fun r q => ¬ Comp E r q) : (fs.flatMap (compL E n)).Nodup := by
  induction fs with
  | nil => simp
  | cons r fs ih =>
    rw [List.pairwise_cons] at h
    rw [List.flatMap_cons]
    unfold List.Nodup
    rw [List.pairwise_append]
    refine ⟨(compL_sorted E n r).imp fun h => by omega, ih h.2, fun x hx y hy he => ?_⟩
    subst he
    obtain ⟨q, hq, hy⟩ := List.mem_flatMap.1 hy
    obtain ⟨a, rfl, _, ha⟩ := compL_mem.1 hx
    obtain ⟨_, hb⟩ := compL_mem'.1 hy
    exact h.1 q hq (ha.trans hb.symm)

end Go.Proofs.YtfiginahjofdnaaGreat
end

section
/- slices.Values at []int: its closure calls yield for each element; turned from the kit's worked text on the library's two iterators over a slice. -/
namespace Go.Proofs.YtfiginahjofdnaaGreat
open Go Go.RowKit Go.Shelf Go.Proofs

attribute [local go_sem] Oper.semAt_some

theorem add_block (ad : Addr) (k : Nat) : (ad.add k).block = ad.block := by unfold Addr.add; split <;> rfl

/-- The slice value sv holds the ints zs, in a block below n₀; or it is nil and there are none. -/
def IntsIn (n₀ : Nat) (W : World) (sv : Value) (zs : List Int) : Prop :=
  (∃ cap, sv = .slice none 0 cap ∧ zs = []) ∨ ∃ ad cap, sv = .slice (some ad) zs.length cap ∧ (0 < zs.length → ad.block < n₀) ∧ ∀ j, j < zs.length → W.cell? (ad.add j) = some (.int .i64 (zs[j]?.getD 0))
theorem IntsIn.below {n₀ : Nat} {A B : World} (h : Below n₀ A B) {sv : Value} {zs : List Int} : IntsIn n₀ A sv zs → IntsIn n₀ B sv zs
  | .inl e => .inl e
  | .inr ⟨ad, cap, e, hb, hc⟩ => .inr ⟨ad, cap, e, hb, fun j hj => (h.cell (p := ad.add j) (by rw [add_block]; exact hb (by omega))).trans (hc j hj)⟩

end Go.Proofs.YtfiginahjofdnaaGreat
end

section
/- slices.AppendSeq(nil, slices.Values(s)), slices.Collect, slices.Sorted at []int. The walk of the loop is turned from the kit's worked texts (a loop over slices.Values; the shelf's slices.Collect). -/
namespace Go.Proofs.YtfiginahjofdnaaGreat
open Go Go.RowKit Go.Shelf Go.Proofs

attribute [local go_sem] Oper.semAt_some

open Go.GX

end Go.Proofs.YtfiginahjofdnaaGreat
end

section
/- Edges: both sides' lists of them, and searching in lists of numbers, ends and edges. -/
namespace Go.Proofs.YtfiginahjofdnaaGreat
open Go.GX Go.RowKit
set_option maxRecDepth 100000

abbrev Edge := Int × Int × Int × Int

/-- The port of an edge that bears it: the lesser of its two ends. -/
def isFirst (v i : Nat) (e : Int × Int) : Bool := decide ((v : Int) < e.1) || ((v : Int) == e.1 && decide ((i : Int) ≤ e.2))

def portE (E : Ends) (v i : Nat) : List Edge := match port E v i with
  | some e => if isFirst v i e then [((v : Int), (i : Int), e.1, e.2)] else []
  | none => []
def rowE (E : Ends) (v : Nat) : Nat → List Edge
  | 0 => []
  | i + 1 => rowE E v i ++ portE E v i
def edgesTo (E : Ends) : Nat → List Edge
  | 0 => []
  | v + 1 => edgesTo E v ++ rowE E v (rowOf E v).length
def edgesOf (E : Ends) : List Edge := edgesTo E E.length

/-! ### Searching -/

def Found {α : Type} (l : List α) (p : α → Bool) (i : Int) : Prop := match l.findIdx? p with | some k => i = k | none => i = -1

theorem found_ge {α : Type} {l : List α} {p : α → Bool} {i : Int} (h : Found l p i) : decide (i ≥ 0) = l.any p := by
  unfold Found at h
  cases hf : l.findIdx? p with
  | none =>
    rw [hf] at h
    simp only at h
    subst h
    have h1 := List.findIdx?_eq_none_iff.1 hf
    have : l.any p = false := by
      rw [List.any_eq_false]; intro x hx; simp [h1 x hx]
    rw [this]; rfl
  | some k =>
    rw [hf] at h
    simp only at h
    subst h
    obtain ⟨hk, hp, _⟩ := List.findIdx?_eq_some_iff_getElem.1 hf
    have : l.any p = true := List.any_eq_true.2 ⟨l[k], List.getElem_mem hk, hp⟩
    rw [this]
    simp

theorem found_at {α : Type} {l : List α} {p : α → Bool} {i : Nat} (hi : i < l.length) (ha : ∀ x ∈ l.take i, p x = false) (ht : p l[i] = true) : Found l p i := by
  have : l.findIdx? p = some i := by
    rw [List.findIdx?_eq_some_iff_getElem]
    refine ⟨hi, ht, fun j hj => ?_⟩
    have := ha l[j] (by rw [List.mem_take_iff_getElem]; exact ⟨j, by omega, rfl⟩)
    simp [this]
  unfold Found
  rw [this]

theorem found_no {α : Type} {l : List α} {p : α → Bool} (ha : ∀ x ∈ l, p x = false) : Found l p (-1) := by
  have : l.findIdx? p = none := List.findIdx?_eq_none_iff.2 ha
  unfold Found
  rw [this]

theorem none_succ {α : Type} {l : List α} {p : α → Bool} {i : Nat} (hi : i < l.length) (ha : ∀ x ∈ l.take i, p x = false) (hf : p l[i] = false) : ∀ x ∈ l.take (i + 1), p x = false := by
  intro y hy
  rw [List.take_succ_eq_append_getElem hi] at hy
  rcases List.mem_append.1 hy with h1 | h1
  · exact ha y h1
  · rw [List.mem_singleton.1 h1]; exact hf

theorem index_ok {w : World} {s : Sl} {l : List Int} (h : R w s l) (x : Int) :
    Calls Tryz.prog F.slices_Index_sl_int_int #[s.v, .int .i64 x] w (Ret [.at (.int .i64)] fun (i : Int) w' => Found l (fun y => x == y) i ∧ w = w') := by
  refine C_slices_Index_sl_int_int ?_
  unfold V_slices_Index_sl_int_int
  rw [h.len]
  refine ⟨IN l.length fun i w' => w = w' ∧ ∀ y ∈ l.take i, (x == y) = false, MN l.length, IN_zero ⟨rfl, by simp⟩, ?_⟩
  rintro _ w1 ⟨i, rfl, hi', rfl, ha⟩
  intros
  refine cond_dec (fun hlt => ?_) (fun hge => ⟨?_, rfl⟩)
  · have hlt' : i < l.length := by omega
    refine h.ixI hlt' fun q _ hc => LD_int hc ?_
    exact cond_b (fun ht => ⟨found_at hlt' ha ht, rfl⟩) (fun hf => IN_next h.le hlt' ⟨rfl, none_succ hlt' ha hf⟩)
  · have : i = l.length := by omega
    subst this
    exact found_no (by simpa using ha)

theorem contains_ok {w : World} {s : Sl} {l : List Int} (h : R w s l) (x : Int) :
    Calls Tryz.prog F.slices_Contains_sl_int_int #[s.v, .int .i64 x] w (Ret [.at .bool] fun (b : Bool) w' => b = l.contains x ∧ w = w') := by
  refine C_slices_Contains_sl_int_int ?_
  unfold V_slices_Contains_sl_int_int
  refine call (index_ok h x) ?_
  rintro i _ ⟨hi, rfl⟩
  refine ⟨?_, rfl⟩
  rw [found_ge hi, ← List.any_beq]

end Go.Proofs.YtfiginahjofdnaaGreat
end

section
/- Proper colourings: both sides' tests. -/
namespace Go.Proofs.YtfiginahjofdnaaGreat
open Go.GX Go.RowKit
set_option maxRecDepth 100000

/-- Two nodes with an edge between them, the lesser first, that bear the same. -/
def Clash (E : Ends) (l : List Int) : Prop := ∃ v u : Nat, v ≤ u ∧ v < E.length ∧ u < E.length ∧ (u : Int) ∈ adjOf E v ∧ l.getD v 0 = l.getD u 0

def Proper (n : Net) (l : List Int) : Prop := l.length = n.ends.length ∧ AllIn l 0 1000000000000 ∧ ¬ Clash n.ends l

end Go.Proofs.YtfiginahjofdnaaGreat
end

section
/- Matchings: both sides' tests, and the law IsMatching. -/
namespace Go.Proofs.YtfiginahjofdnaaGreat
open Go.GX Go.RowKit
set_option maxRecDepth 100000

/-- Node v and its mate agree. -/
def MAt (E : Ends) (m : List Int) (v : Nat) : Prop :=
  ∀ x, m[v]? = some x → x = -1 ∨ ∃ e, portZ E v x = some e ∧ e.1 ≠ v ∧ ∃ u : Nat, e.1 = u ∧ m[u]? = some e.2

def MatchOk (E : Ends) (m : List Int) : Prop := m.length = E.length ∧ ∀ v < m.length, MAt E m v

end Go.Proofs.YtfiginahjofdnaaGreat
end

section
/- Sets of nodes and matchings: both sides' tests of independence, covers, maximality; sizes of matchings. -/
namespace Go.Proofs.YtfiginahjofdnaaGreat
open Go.GX Go.RowKit
set_option maxRecDepth 100000

structure SetOk (n : Net) (l : List Int) : Prop where
  good : Good n
  rising : Rising l 0 (n.ends.length - 1)

theorem SetOk.node {n : Net} {l : List Int} (h : SetOk n l) : ∀ x ∈ l, ∃ u : Nat, x = u ∧ u < n.ends.length := by
  intro x hx
  have := h.rising.1 x hx
  exact ⟨x.toNat, by omega, by omega⟩

/-! ### Independent sets -/

/-- No neighbour of v lies in the set. -/
def Apart (E : Ends) (l : List Int) (v : Nat) : Prop := ∀ x ∈ adjOf E v, x ∉ l

/-! ### Covers -/

end Go.Proofs.YtfiginahjofdnaaGreat
end

section
/- Maximal matchings and maximal independent sets; sizes of matchings. -/
namespace Go.Proofs.YtfiginahjofdnaaGreat
open Go.GX Go.RowKit
set_option maxRecDepth 100000

/-! ### Matchings that are asked rightly, and their size -/

structure MatchAsked (n : Net) (m : List Int) : Prop where
  good : Good n
  is : MatchOk n.ends m

/-- An answer that is a number, and whether it was asked rightly. -/
def AnsI (g : Prop) (k : Int) (x : Int) (ok : Bool) : Prop := (ok = true ↔ g) ∧ (g → x = k) ∧ (¬ g → x = 0)

theorem AnsI.eq {g : Prop} {k x x' : Int} {ok ok' : Bool} (h : AnsI g k x ok) (h' : AnsI g k x' ok') : x = x' ∧ ok = ok' := by
  refine ⟨?_, Bool.eq_iff_iff.2 (h.1.trans h'.1.symm)⟩
  by_cases hg : g
  · rw [h.2.1 hg, h'.2.1 hg]
  · rw [h.2.2 hg, h'.2.2 hg]

theorem AnsI.no {g : Prop} {k : Int} (h : ¬ g) : AnsI g k 0 false := ⟨by simp [h], fun h1 => absurd h1 h, fun _ => rfl⟩
theorem AnsI.mk {g : Prop} {k x : Int} (h : g) (hx : x = k) : AnsI g k x true := ⟨by simp [h], fun _ => hx, fun h1 => absurd h h1⟩

/-! ### Maximal matchings -/

/-- An edge that could be added: two nodes, both free. -/
def FreeEdge (l : List Int) (q : Edge) : Prop := q.1 ≠ q.2.2.1 ∧ l.getD q.1.toNat 0 < 0 ∧ l.getD q.2.2.1.toNat 0 < 0
instance (l : List Int) (q : Edge) : Decidable (FreeEdge l q) := by unfold FreeEdge; exact inferInstance
def Maximal (n : Net) (l : List Int) : Prop := ∀ q ∈ edgesOf n.ends, ¬ FreeEdge l q

/-! ### Maximal independent sets -/

end Go.Proofs.YtfiginahjofdnaaGreat
end

section
/- Slices that may be written, whatever they hold: the marks that a law leaves in its arguments and answers. No program is named here. -/
namespace Go.GX
open Go.RowKit

/-- Each cell of the slice may be written. -/
def Wr (w : World) (s : Sl) (sz : Nat) : Prop := ∀ j, j < s.len * sz → ∃ a, s.a = some a ∧ (∃ old, w.cell? (a.add j) = some old) ∧ w.frozen? (a.add j) = false

/-- No cell goes, none is frozen. -/
def Shp (w w' : World) : Prop := (∀ a old, w.cell? a = some old → ∃ new, w'.cell? a = some new) ∧ ∀ a, w.frozen? a = false → (∃ old, w.cell? a = some old) → w'.frozen? a = false

theorem Shp.refl (w : World) : Shp w w := ⟨fun _ old h => ⟨old, h⟩, fun _ h _ => h⟩
theorem Shp.trans {a b c : World} (h : Shp a b) (k : Shp b c) : Shp a c :=
  ⟨fun p old hp => by obtain ⟨n, hn⟩ := h.1 p old hp; exact k.1 p n hn, fun p hf ⟨old, hp⟩ => k.2 p (h.2 p hf ⟨old, hp⟩) (h.1 p old hp)⟩
theorem Shp.setCell (w : World) (p : Addr) (v : Value) : Shp w (w.setCell p v) :=
  ⟨fun a old h => by
    by_cases hp : p = a
    · subst hp; exact ⟨v, World.cell?_setCell_same w p v h⟩
    · exact ⟨old, by rw [World.cell?_setCell_other w p a v hp]; exact h⟩, fun a h _ => by rw [World.frozen?_setCell]; exact h⟩
theorem Shp.ext {w w' : World} (h : Ext w w') : Shp w w' :=
  ⟨fun a old ho => ⟨old, h.cell ho⟩, fun a hf ⟨old, ho⟩ => by
    have hb : w'.heap[a.block]? = w.heap[a.block]? := h.same (cell_lt ho)
    unfold World.frozen? at hf ⊢
    rw [hb]; exact hf⟩

theorem Wr.shp {w w' : World} {s : Sl} {sz : Nat} (h : Wr w s sz) (hs : Shp w w') : Wr w' s sz := fun j hj => by
  obtain ⟨a, ha, ⟨old, hc⟩, hf⟩ := h j hj
  exact ⟨a, ha, hs.1 _ _ hc, hs.2 _ hf ⟨old, hc⟩⟩

theorem OwnL.wr {α : Type} [Flat α] {w : World} {base : Nat} {e : TypeId} {s : Sl} {l : List α} (h : OwnL w base e s l) : Wr w s (Rep.sz α) := fun j hj => by
  rcases h.2.2 with ⟨hv, h0⟩ | ⟨g, cap, cur, hv, hb, hg, hle, _, hsz, htake⟩
  · rw [h0] at hj; simp at hj
  · simp [Sl.v] at hv
    obtain ⟨ha, rfl⟩ := hv
    have hlen := h.2.length
    have hlt : j < (l.flatMap Flat.cells).length := by rw [hlen]; exact hj
    have hown : w.ownsRow base e (Rep.sz α) s.v s.len (l.flatMap Flat.cells) := h.2
    refine ⟨_, ha, ⟨_, World.ownsRow.cells hown (g := g) (by simp [Sl.v, ha, Value.ownBlock]) j _ (List.getElem?_eq_getElem hlt)⟩, ?_⟩
    simp [World.frozen?, add_block, hg]

/-- The block of a slice. -/
def blkOf (s : Sl) (b : Nat) : Prop := ∃ a, s.a = some a ∧ a.block = b

/-- One cell written. -/
theorem ST_wr1 {w : World} {s : Sl} {sz i : Nat} (h : Wr w s sz) {a : Addr} (ha : s.a = some a) {p : Addr} {k : Nat} (hp : p.add k = a.add i) (hi : i < s.len * sz) {v : Value} (h1 : v.oneCell' = true) {K : World → Prop}
    (hk : ∀ w', Shp w w' → Chg w w' (blkOf s) → w'.heap.size = w.heap.size → K w') : ST p k [v] w K := by
  obtain ⟨a', ha', hc, hf⟩ := h i hi
  rw [ha] at ha'; cases ha'
  refine ⟨h1, by rw [hp]; exact hc, by rw [hp]; exact hf, ?_⟩
  rw [hp]
  refine hk _ (Shp.setCell _ _ _) ⟨rfl, rfl, rfl, by rw [setCell_size]; exact Nat.le_refl _, fun b _ hD => ?_⟩ (setCell_size _ _ _)
  refine setCell_other _ _ _ fun he => hD ⟨a, ha, ?_⟩
  rw [he, add_block]

theorem IX_wr {w : World} {s : Sl} {sz i : Nat} (h : Wr w s sz) (hsz : 0 < sz) (hi : i < s.len) {K : Addr → Prop} (hk : ∀ a, s.a = some a → K (a.add (i * sz))) : IX s i sz K := by
  have hj : i * sz < s.len * sz := Nat.mul_lt_mul_of_pos_right hi hsz
  obtain ⟨a, ha, _⟩ := h _ hj
  exact ⟨a, ha, by omega, by omega, by simpa using hk a ha⟩

/-- Numbers in a row. -/
def marks (k : Int) (n : Nat) : List Int := (List.range n).map fun (i : Nat) => k + (i : Int)

theorem marks_length (k : Int) (n : Nat) : (marks k n).length = n := by simp [marks]
theorem marks_get (k : Int) (n i : Nat) (h : i < (marks k n).length) : (marks k n)[i] = k + i := by simp [marks]
theorem marks_I64 {k : Int} {n : Nat} (h0 : 0 ≤ k) (h1 : k + n ≤ 9223372036854775807) : ∀ x ∈ marks k n, I64 x := fun x hx => by
  simp [marks] at hx
  obtain ⟨i, hi, rfl⟩ := hx
  unfold I64; omega

theorem marks_step {k : Int} {l : List Int} {i : Nat} (hi : i < l.length) : (marks k i ++ l.drop i).set i (k + i) = marks k (i + 1) ++ l.drop (i + 1) := by
  have h1 : (marks k i).length = i := marks_length _ _
  rw [List.set_append_right _ _ (by omega), h1, Nat.sub_self, List.drop_eq_getElem_cons hi, List.set_cons_zero]
  simp [marks, List.range_succ]

theorem Chg.extR {w0 w w' : World} {lo hi : Nat} (h : Chg w w' (fun b => lo ≤ b ∧ b < hi)) (hE : Ext w0 w) (hl : w0.heap.size ≤ lo) : Ext w0 w' := h.ext0 hE fun k hk => by have := hk.1; omega
theorem Chg.extB {w0 w w' : World} {lo : Nat} (h : Chg w w' (fun b => lo ≤ b)) (hE : Ext w0 w) (hl : w0.heap.size ≤ lo) : Ext w0 w' := h.ext0 hE fun k hk => by have : lo ≤ k := hk; omega

/-! ### Lists that are filled from the front -/

/-! ### Boxes and lists of the call's own, apart by their types -/

def oB (s : Sl) (b : Nat) : Prop := s.v.ownBlock = some b

theorem SlR.stepD {α : Type} [RepP α] {D : Nat → Prop} {w w' : World} {s : Sl} {l : List α} {g : Option Nat} (h : SlR D w s l) (hs : Step w w' g) (hD : ∀ b, D b → g ≠ some b) : SlR D w' s l :=
  (h.below.agr fun b hb => hs.block b hb.2 fun he => hD b hb.1 he.symm).weak (fun _ hb _ => hb.1) RepP.pos

/-! ### Answers that hold only where something holds -/

structure AnsG {α : Type} (g : Prop) (x d y : α) (ok : Bool) : Prop where
  ok : ok = true ↔ g
  val : g → y = x
  non : ¬ g → y = d

theorem AnsG.yes {α : Type} {g : Prop} {x d : α} (h : g) : AnsG g x d x true := ⟨by simp [h], fun _ => rfl, fun hn => absurd h hn⟩
theorem AnsG.no {α : Type} {g : Prop} {x d : α} (h : ¬ g) : AnsG g x d d false := ⟨by simp [h], fun hg => absurd hg h, fun _ => rfl⟩
theorem AnsG.eq {α : Type} {g : Prop} {x d y y' : α} {ok ok' : Bool} (h : AnsG g x d y ok) (h' : AnsG g x d y' ok') : y = y' ∧ ok = ok' := by
  constructor
  · by_cases hg : g
    · rw [h.val hg, h'.val hg]
    · rw [h.non hg, h'.non hg]
  · rw [Bool.eq_iff_iff, h.ok, h'.ok]

end Go.GX
end

section
/- The laws' marks: what they write into copies and answers, and what they look for again. -/
namespace Go.Proofs.YtfiginahjofdnaaGreat
open Go.GX Go.RowKit
set_option maxRecDepth 100000

theorem markIntS_ok {w : World} {base : Nat} {s : Sl} {l : List Int} (h : OwnL w base T.t_int s l) (k : Int) (h0 : 0 ≤ k) (h1 : k ≤ 1152921504606846976) (hl : l.length ≤ 1048576) :
    Calls Tryz.prog F.l_markIntS #[s.v, .int .i64 k] w (Ret [.at (.int .i64)] fun (r : Int) w' => r = k + l.length ∧ OwnL w' base T.t_int s (marks k l.length) ∧ Step w w' s.v.ownBlock) := by
  refine C_l_markIntS ?_
  unfold V_l_markIntS
  rw [h.1]
  refine ⟨IN2 l.length fun i r w' => r = k + i ∧ OwnL w' base T.t_int s (marks k i ++ l.drop i) ∧ Step w w' s.v.ownBlock, MN2 l.length, IN2_zero ⟨by simp, by simpa [marks] using h, Step.refl _ _⟩, ?_⟩
  rintro _ _ w1 ⟨i, rfl, hi, rfl, hO, hs⟩
  intros
  refine cond_dec (fun hlt => ?_) (fun hge => ?_)
  · have hi' : i < l.length := by omega
    have hml : (marks k i ++ l.drop i).length = l.length := by rw [List.length_append, marks_length, List.length_drop]; omega
    refine IX_own hO (by rw [hml]; exact hi') rfl fun p hp => ?_
    refine ST_own hO (by rw [hml]; exact hi') hp (k + i) rfl fun w2 hO2 hs2 => ?_
    rw [marks_step hi'] at hO2
    rw [wrap_of (n := k + i + 1) (by omega) (by omega)]
    exact IN2_next (by omega) hi' ⟨by omega, hO2, hs.trans hs2⟩
  · have : i = l.length := by omega
    subst this
    exact ⟨rfl, by simpa using hO, hs⟩

theorem heldIntS_ok {w : World} {s : Sl} {n : Nat} (k : Int) (h : R w s (marks k n)) (h0 : 0 ≤ k) (h1 : k ≤ 1152921504606846976) (hl : n ≤ 1048576) :
    Calls Tryz.prog F.l_heldIntS #[s.v, .int .i64 k] w (Ret [.at (.int .i64)] fun (r : Int) w' => r = k + n ∧ w = w') := by
  refine C_l_heldIntS ?_
  unfold V_l_heldIntS
  rw [h.len, marks_length]
  refine ⟨IN2 n fun i r w' => r = k + i ∧ w = w', MN2 n, IN2_zero ⟨by simp, rfl⟩, ?_⟩
  rintro _ _ w1 ⟨i, rfl, hi, rfl, rfl⟩
  intros
  refine cond_dec (fun hlt => ?_) (fun hge => ?_)
  · have hi' : i < (marks k n).length := by rw [marks_length]; omega
    refine h.ixI hi' fun p _ hc => LD_int hc ?_
    rw [marks_get]
    refine cond_ne (fun hne => absurd rfl hne) (fun _ => ?_)
    rw [wrap_of (n := k + i + 1) (by omega) (by omega)]
    exact IN2_next (by omega) (by omega) ⟨by omega, rfl⟩
  · have : i = n := by omega
    subst this
    exact ⟨rfl, rfl⟩

theorem markIntS_wr {w : World} {s : Sl} (h : Wr w s 1) (k : Int) (h0 : 0 ≤ k) (h1 : k ≤ 1152921504606846976) (hl : s.len ≤ 1048576) :
    Calls Tryz.prog F.l_markIntS #[s.v, .int .i64 k] w (Ret [.at (.int .i64)] fun (r : Int) w' => r = k + s.len ∧ Shp w w' ∧ Chg w w' (blkOf s)) := by
  refine C_l_markIntS ?_
  unfold V_l_markIntS
  refine ⟨IN2 s.len fun i r w' => r = k + i ∧ Shp w w' ∧ Chg w w' (blkOf s), MN2 s.len, IN2_zero ⟨by simp, Shp.refl _, Chg.refl _ _⟩, ?_⟩
  rintro _ _ w1 ⟨i, rfl, hi, rfl, hS, hC⟩
  intros
  refine cond_dec (fun hlt => ?_) (fun hge => ?_)
  · have hi' : i < s.len := by omega
    refine IX_wr (h.shp hS) (by decide) hi' fun a ha => ?_
    refine ST_wr1 (i := i) (h.shp hS) ha (by rw [add_add]; simp) (by omega) rfl fun w2 hS2 hC2 _ => ?_
    rw [wrap_of (n := k + i + 1) (by omega) (by omega)]
    exact IN2_next (by omega) hi' ⟨by omega, hS.trans hS2, hC.trans hC2⟩
  · have : i = s.len := by omega
    subst this
    exact ⟨rfl, hS, hC⟩

/-- A slice of numbers that may be marked: its blocks lie between two bounds. -/
structure MInt (w : World) (s : Sl) (lo hi : Nat) : Prop where
  wr : Wr w s 1
  len : s.len ≤ 1048576
  blk : ∀ b, blkOf s b → lo ≤ b ∧ b < hi

theorem MInt.shp {w w' : World} {s : Sl} {lo hi : Nat} (h : MInt w s lo hi) (hs : Shp w w') : MInt w' s lo hi := ⟨h.wr.shp hs, h.len, h.blk⟩
theorem MInt.ext {w w' : World} {s : Sl} {lo hi : Nat} (h : MInt w s lo hi) (hE : Ext w w') : MInt w' s lo hi := h.shp (Shp.ext hE)

theorem blkOf_own {α : Type} [Flat α] {w : World} {base : Nat} {e : TypeId} {s : Sl} {l : List α} (h : OwnL w base e s l) {b : Nat} (hb : blkOf s b) : s.v.ownBlock = some b := by
  obtain ⟨a, ha, rfl⟩ := hb
  rcases h.2.2 with ⟨hv, _⟩ | ⟨g, cap, cur, hv, _⟩
  · simp [Sl.v] at hv; rw [ha] at hv; cases hv.1
  · simp [Sl.v] at hv
    rw [ha] at hv
    simp [Sl.v, ha, Value.ownBlock]

theorem mint_of {w : World} {base : Nat} {s : Sl} {l : List Int} (h : OwnL w base T.t_int s l) (hl : l.length ≤ 1048576) : MInt w s base w.heap.size :=
  ⟨h.wr, by rw [h.1]; exact hl, fun b hb => h.blk b (blkOf_own h hb)⟩

/-- A slice of slices of numbers that may be marked. -/
structure MIntSS (w : World) (s : Sl) (lo hi : Nat) : Prop where
  ex : ∃ ss : List Sl, OwnL w lo T.t_sl_int s ss ∧ ss.length ≤ 1048576 ∧ ∀ r ∈ ss, MInt w r lo hi ∧ ∀ b, blkOf r b → s.v.ownBlock ≠ some b


/-! ### Answers that are lists -/

/-- An answer of the call's own: its blocks lie from base on. -/
structure OutL (base : Nat) (w : World) (s : Sl) (l : List Int) : Prop where
  own : OwnL w base T.t_int s l
  i64 : ∀ x ∈ l, I64 x
  small : l.length ≤ 1048576

theorem OutL.rep {base : Nat} {w : World} {s : Sl} {l : List Int} (h : OutL base w s l) : R w s l := (h.own.rep h.i64).any
theorem OutL.ext {base : Nat} {w w' : World} {s : Sl} {l : List Int} (h : OutL base w s l) (hE : Ext w w') : OutL base w' s l := ⟨h.own.ext hE, h.i64, h.small⟩
theorem OutL.chgR {base lo hi : Nat} {w w' : World} {s : Sl} {l : List Int} (h : OutL base w s l) (hC : Chg w w' (fun b => lo ≤ b ∧ b < hi)) (hh : hi ≤ base) : OutL base w' s l :=
  ⟨h.own.chg hC fun b hb hD => by have := (h.own.blk b hb).1; have := hD.2; omega, h.i64, h.small⟩
theorem OutL.nil (base : Nat) (w : World) : OutL base w ⟨none, 0, 0⟩ [] := ⟨OwnL.nil _ _ _, by simp, by simp⟩
theorem OutL.low {base b : Nat} {w : World} {s : Sl} {l : List Int} (h : OutL base w s l) (hb : b ≤ base) : OutL b w s l := ⟨h.own.low hb, h.i64, h.small⟩

end Go.Proofs.YtfiginahjofdnaaGreat
end

section
/- Contracts of functions of the library: Mul, Repeat. -/
namespace Go.Proofs.YtfiginahjofdnaaGreat
open Go.GX Go.RowKit
set_option maxRecDepth 100000

theorem mul_ok {x y : Nat} (h : x * y < 4294967296) (hx : x < 4294967296) (hy : y < 4294967296) (w : World) :
    Calls Tryz.prog F.math_bits_Mul #[.int .u64 x, .int .u64 y] w (Ret [.at (.int .u64), .at (.int .u64)] fun (a b : Int) w' => a = 0 ∧ b = ((x * y : Nat) : Int) ∧ w = w') := by
  refine C_math_bits_Mul ?_
  unfold V_math_bits_Mul
  refine call (Q := fun (a b : Int) w' => a = 0 ∧ b = ((x * y : Nat) : Int) ∧ w = w') (C_math_bits_Mul64 ?_) (fun a b w' h => h)
  unfold V_math_bits_Mul64
  refine ⟨by decide, by decide, by decide, by decide, by decide, ?_⟩
  have s0 : ∀ a : Nat, a < 4294967296 → shrI .u64 a 32 = 0 := fun a ha => by
    have := shr_nat .u64 a 32 (by decide)
    rw [show ((32 : Nat) : Int) = 32 from rfl] at this
    rw [this, Nat.div_eq_of_lt (by simpa using ha)]; rfl
  have wr : ∀ a : Nat, a < 4294967296 → IntKind.u64.wrap (a : Int) = a := fun a ha => wrap_u64 (by omega) (by omega)
  have z0 : shrI .u64 0 32 = 0 := s0 0 (by omega)
  have w0 : IntKind.u64.wrap 0 = 0 := wr 0 (by omega)
  have b0 : bitAnd .u64 0 4294967295 = 0 := bitAnd_u64_low 0 (by omega)
  rw [s0 x hx, s0 y hy, bitAnd_u64_low x hx, bitAnd_u64_low y hy, ← Int.natCast_mul, wr _ h, s0 _ h]
  simp only [Int.zero_mul, Int.mul_zero, w0, z0, b0, Int.add_zero]
  exact ⟨trivial, trivial, trivial⟩

theorem repl_step {n k : Nat} {v : Int} (hk : k ≤ n) (h0 : 0 < k) : ((List.replicate k v ++ List.replicate (n - k) 0).take k ++ (List.replicate k v).take (n - k) ++ (List.replicate k v ++ List.replicate (n - k) 0).drop (k + min (List.replicate k v).length (n - k))) = List.replicate (k + min k (n - k)) v ++ List.replicate (n - (k + min k (n - k))) (0 : Int) := by
  simp only [List.length_replicate]
  rw [List.take_append_of_le_length (by simp), List.take_replicate, Nat.min_self, List.take_replicate, List.drop_append, List.drop_eq_nil_of_le (by simp), List.nil_append, List.drop_replicate, List.length_replicate, List.replicate_append_replicate]
  congr 2
  · omega
  · omega

theorem repeat_ok {w : World} {s : Sl} {v : Int} (h : R w s [v]) (hv : I64 v) {n : Nat} (hn : n ≤ 1048576) :
    Calls Tryz.prog F.slices_Repeat_sl_int_int #[s.v, .int .i64 n] w (Ret [.at .sl] fun (r : Sl) w' => Ext w w' ∧ OwnL w' w.heap.size T.t_int r (List.replicate n v)) := by
  refine C_slices_Repeat_sl_int_int ?_
  unfold V_slices_Repeat_sl_int_int
  refine cond_df (by omega) ?_
  have hsl : s.len = 1 := h.len
  rw [hsl, wrap_u64 (by omega) (by omega), wrap_u64 (by omega) (by omega)]
  refine call (mul_ok (x := 1) (y := n) (by omega) (by omega) (by omega) w) ?_
  rintro a b _ ⟨rfl, rfl, rfl⟩
  refine cond_df (by omega) ?_
  refine cond_df (by omega) ?_
  unfold V_slices_Repeat_sl_int_int_k2
  rw [Nat.one_mul, wrap_of (by omega) (by omega)]
  refine RUN_make (α := Int) slt_int (d := 0) rfl (by omega) (by unfold maxLen; omega) fun r w1 hE1 hO1 => ?_
  have hrl : r.len = n := by rw [hO1.1]; simp
  refine RUN_copy (α := Int) rfl slt_int hO1 (off := 0) (d := r) (fun _ => by cases r.a <;> simp [add_zero']) (by simp [hrl]) (h.ext hE1) fun w2 hO2 hs2 _ => ?_
  have hE2 := hs2.ext0 hE1 (fun k hk => (hO1.blk k hk).1)
  refine ⟨fun x w' => ∃ k : Nat, x = k ∧ k ≤ n ∧ (0 < n → 0 < k) ∧ Ext w w' ∧ OwnL w' w.heap.size T.t_int r (List.replicate k v ++ List.replicate (n - k) 0), fun x _ => n - x.toNat, ⟨min 1 n, ?_, by omega, by omega, hE2, ?_⟩, ?_⟩
  · simp [hrl]
  · rcases Nat.eq_zero_or_pos n with h0 | h0
    · subst h0
      simpa [hrl] using hO2
    · have e1 : min 1 n = 1 := by omega
      rw [e1]
      have e2 : (List.take 0 (List.replicate n (0 : Int)) ++ List.take r.len [v] ++ List.drop (0 + min [v].length r.len) (List.replicate n 0)) = List.replicate 1 v ++ List.replicate (n - 1) 0 := by
        rw [hrl]
        simp [List.take_of_length_le (l := [v]) (i := n) (by simp; omega), e1]
      rw [← e2]; exact hO2
  rintro x w3 ⟨k, rfl, hk, hpos, hE3, hO3⟩
  intros
  refine cond_dec (fun hlt => ?_) (fun hge => ?_)
  · have hkn : k < n := by omega
    have hk0 : 0 < k := hpos (by omega)
    intro w4 hE4 hheap
    refine ⟨fun _ => True, ?_⟩
    have hcap : r.len ≤ r.cap := ((hO3.rep (by intro x hx; rcases List.mem_append.1 hx with h1 | h1 <;> rw [List.eq_of_mem_replicate h1]; exact hv; exact ⟨by decide, by decide⟩)).2.1).1
    refine SLC_from hcap (by omega) fun d hdl hda => ⟨Chg.refl _ _, ?_⟩
    refine SLC_to (by omega) fun y hyl hya hyc => ⟨Chg.refl _ _, ?_⟩
    have hO4 := hO3.ext hE4
    have hR4 := hO4.rep (by intro x hx; rcases List.mem_append.1 hx with h1 | h1 <;> rw [List.eq_of_mem_replicate h1]; exact hv; exact ⟨by decide, by decide⟩)
    have hRy : R w4 y (List.replicate k v) := by
      refine ⟨by simp [hyl], ⟨by omega, by have := hR4.2.1.2; omega⟩, fun i x hx => ?_⟩
      obtain ⟨a, cs, h1, _, h3, h4⟩ := hR4.2.2 i x (by
        obtain ⟨hi, _⟩ := List.getElem?_eq_some_iff.1 hx
        rw [List.getElem?_append_left hi]; exact hx)
      exact ⟨a, cs, by rw [hya]; exact h1, trivial, h3, h4⟩
    refine RUN_copy (α := Int) rfl slt_int hO4 (off := k) (d := d) (fun hd0 => by rw [hda (by omega)]; simp) (by simp; omega) hRy fun w5 hO5 hs5 _ => ?_
    rw [hdl, hrl] at hO5 ⊢
    rw [repl_step hk hk0] at hO5
    have hmin : min (List.replicate k v).length (n - k) = min k (n - k) := by simp
    refine ⟨.of_step hs5 fun _ _ => trivial, .of_step hs5 fun _ _ => trivial, ?_⟩
    rw [hmin, wrap_of (by omega) (by omega)]
    exact ⟨⟨k + min k (n - k), by omega, by omega, by omega, hs5.ext0 (hE3.trans hE4) (fun b hb => (hO4.blk b hb).1), hO5⟩, by show n - (_ : Int).toNat < n - (_ : Int).toNat; omega⟩
  · have : k = n := by omega
    subst this
    exact ⟨hE3, by simpa using hO3⟩

theorem l1Own_ok {w : World} {s : Sl} {l : List Int} (h : R w s l) (hl : l.length ≤ 1048576) :
    Calls Tryz.prog F.s_l1Own #[s.v] w (Ret [.at .sl] fun (r : Sl) w' => Ext w w' ∧ OwnL w' w.heap.size T.t_int r l) := by
  refine C_s_l1Own ?_
  unfold V_s_l1Own
  refine RUN_lit0 (α := Int) slt_int fun r w1 hE1 hO1 => ?_
  refine RUN_append (α := Int) slt_int hO1 hE1.size (h.ext hE1) (by simp; omega) (by simp [maxLen]; omega) fun r' w2 hO2 hs => ?_
  exact ⟨hs.ext0 hE1 (fun k hk => (hO1.blk k hk).1), by simpa using hO2⟩

end Go.Proofs.YtfiginahjofdnaaGreat
end

section
/- Orders of nodes; sets that are kept in order; GreedyIndependent, both sides. -/
namespace Go.Proofs.YtfiginahjofdnaaGreat
open Go.GX Go.RowKit
set_option maxRecDepth 100000

theorem slt_bool : SlT Tryz.prog T.t_sl_bool T.t_bool 1 1 (.bool false) := ⟨by kernel_rfl, by kernel_rfl, rfl, by decide⟩

structure PermOk (l : List Int) (k : Nat) : Prop where
  len : l.length = k
  all : AllIn l 0 (k - 1)
  nodup : l.Nodup

theorem PermOk.node {l : List Int} {k : Nat} (h : PermOk l k) : ∀ x ∈ l, ∃ u : Nat, x = u ∧ u < k := fun x hx => by
  have := h.all x hx
  exact ⟨x.toNat, by omega, by omega⟩

/-! ### Lists in order -/

theorem sorted_ext : ∀ {a b : List Int}, a.Pairwise (· < ·) → b.Pairwise (· < ·) → (∀ x, x ∈ a ↔ x ∈ b) → a = b
  | [], [], _, _, _ => rfl
  | [], y :: b, _, _, h => by have := (h y).2 (by simp); cases this
  | x :: a, [], _, _, h => by have := (h x).1 (by simp); cases this
  | x :: a, y :: b, ha, hb, h => by
    obtain ⟨ha1, ha2⟩ := List.pairwise_cons.1 ha
    obtain ⟨hb1, hb2⟩ := List.pairwise_cons.1 hb
    have hxy : x = y := by
      have h1 := (h x).1 (by simp)
      have h2 := (h y).2 (by simp)
      rcases List.mem_cons.1 h1 with h3 | h3
      · exact h3
      · rcases List.mem_cons.1 h2 with h4 | h4
        · exact h4.symm
        · have := hb1 x h3; have := ha1 y h4; omega
    subst hxy
    rw [sorted_ext ha2 hb2 fun z => ?_]
    constructor
    · intro hz
      rcases List.mem_cons.1 ((h z).1 (by simp [hz])) with h3 | h3
      · have := ha1 z hz; omega
      · exact h3
    · intro hz
      rcases List.mem_cons.1 ((h z).2 (by simp [hz])) with h3 | h3
      · have := hb1 z hz; omega
      · exact h3

theorem eq_sortI {m S : List Int} (hm : m.Pairwise (· < ·)) (hS : S.Nodup) (h : ∀ x, x ∈ m ↔ x ∈ S) : m = sortI S :=
  sorted_ext hm (incr_iff_pairwise.1 (incr_sortI.2 hS)) fun x => (h x).trans (sortI_perm S).mem_iff.symm

/-- A slice's last elements. -/
theorem slr_drop {α : Type} [RepP α] {D : Nat → Prop} {w : World} {s : Sl} {l : List α} (h : SlR D w s l) {i : Nat} (hi : i ≤ l.length) {sz : Nat} (hsz : sz = Rep.sz α) {K : Sl → Prop} (hk : ∀ s', SlR D w s' (l.drop i) → K s') : SLC s (some (i : Int)) none sz K := by
  subst hsz
  have h1 := h.1
  have h2 := h.2.1
  refine SLC_from' h2.1 (by omega) fun d hd hc ha => hk d ⟨by simp; omega, by omega, fun j x hx => ?_⟩
  rw [List.getElem?_drop] at hx
  have hlt := (List.getElem?_eq_some_iff.1 hx).1
  obtain ⟨a, cs, e1, e2, e3, e4⟩ := h.2.2 (i + j) x hx
  refine ⟨a.add (i * Rep.sz α), cs, by rw [ha (by omega), e1]; rfl, by rw [add_block]; exact e2, e3, fun t v ht => ?_⟩
  rw [add_add, show i * Rep.sz α + (j * Rep.sz α + t) = (i + j) * Rep.sz α + t by rw [Nat.add_mul]; omega]
  exact e4 t v ht

theorem l1Put_D {D : Nat → Prop} {w : World} {s : Sl} {l : List Int} (h : SlR D w s l) (hl : l.length ≤ 100000) (hsorted : l.Pairwise (· < ·)) {n : Int} (hn : I64 n) :
    Calls Tryz.prog F.s_l1Put #[s.v, .int .i64 n] w (Ret [.at .sl] fun (r : Sl) w' => Ext w w' ∧ ∃ m, SlR (fun b => D b ∨ w.heap.size ≤ b) w' r m ∧ m.Pairwise (· < ·) ∧ (∀ x, x ∈ m ↔ x ∈ l ∨ x = n) ∧ m.length ≤ l.length + 1) := by
  refine C_s_l1Put ?_
  unfold V_s_l1Put
  rw [h.len]
  have hfin : ∀ k : Nat, k ≤ l.length → (∀ x ∈ l.take k, x < n) → (∀ x ∈ l.drop k, n ≤ x) → V_s_l1Put_k1 s n (fun (r : Sl) w' => Ext w w' ∧ ∃ m, SlR (fun b => D b ∨ w.heap.size ≤ b) w' r m ∧ m.Pairwise (· < ·) ∧ (∀ x, x ∈ m ↔ x ∈ l ∨ x = n) ∧ m.length ≤ l.length + 1) (k : Int) w := by
    intro k hk hlo hhi
    unfold V_s_l1Put_k1
    have hput : n ∉ l → V_s_l1Put_k4 s n (fun (r : Sl) w' => Ext w w' ∧ ∃ m, SlR (fun b => D b ∨ w.heap.size ≤ b) w' r m ∧ m.Pairwise (· < ·) ∧ (∀ x, x ∈ m ↔ x ∈ l ∨ x = n) ∧ m.length ≤ l.length + 1) (k : Int) w := by
      intro hnl
      unfold V_s_l1Put_k4
      refine RUN_lit0 (α := Int) slt_int fun r1 w1 hE1 hO1 => ?_
      have h1 := h.ext hE1
      refine h1.take hk rfl fun s1 hs1 => ?_
      have htl : (l.take k).length ≤ 100000 := by simp; omega
      have hdl : (l.drop k).length ≤ 100000 := by simp; omega
      refine RUN_append (α := Int) slt_int hO1 hE1.size_le hs1 (by simp; omega) (by simp [maxLen]; omega) fun r2 w2 hO2 hs2 => ?_
      have hE2 := hs2.ext0 hE1 (fun k hk => (hO1.blk k hk).1)
      refine RUN_lit1 (α := Int) slt_int n rfl (by decide) fun r3 w3 hE3 hO3 => ?_
      have hO2' := hO2.ext hE3
      refine RUN_append (α := Int) slt_int hO2' (hE2.trans hE3).size_le (hO3.rep (by intro z hz; simp at hz; subst hz; exact hn)).any (by simp; omega) (by simp [maxLen]; omega) fun r4 w4 hO4 hs4 => ?_
      have hE4 := hs4.ext0 (hE2.trans hE3) (fun k hk => (hO2'.blk k hk).1)
      refine slr_drop (h.ext hE4) hk rfl fun s5 hs5 => ?_
      refine RUN_append (α := Int) slt_int hO4 hE4.size_le hs5 (by simp; omega) (by simp [maxLen]; omega) fun r6 w6 hO6 hs6 => ?_
      have hE6 := hs6.ext0 hE4 (fun k hk => (hO4.blk k hk).1)
      refine ⟨hE6, _, (hO6.rep ?_).weak (fun b hb _ => .inr hb) RepP.pos, ?_, ?_, ?_⟩
      · intro x hx
        simp only [List.mem_append, List.mem_singleton, List.not_mem_nil, false_or] at hx
        rcases hx with (h7 | h7) | h7
        · exact flat_ok h.any x (List.mem_of_mem_take h7)
        · rw [h7]; exact hn
        · exact flat_ok h.any x (List.mem_of_mem_drop h7)
      · have hp := hsorted
        rw [← List.take_append_drop k l, List.pairwise_append] at hp
        simp only [List.nil_append, List.append_assoc]
        rw [List.pairwise_append]
        refine ⟨hp.1, ?_, ?_⟩
        · simp only [List.singleton_append, List.pairwise_cons]
          refine ⟨fun x hx => ?_, hp.2.1⟩
          have h8 := hhi x hx
          have : x ≠ n := fun he => hnl (he ▸ List.mem_of_mem_drop hx)
          omega
        · intro x hx y hy
          simp only [List.singleton_append, List.mem_cons] at hy
          rcases hy with rfl | hy
          · exact hlo x hx
          · exact hp.2.2 x hx y hy
      · intro x
        simp only [List.mem_append, List.mem_singleton, List.not_mem_nil, false_or]
        constructor
        · rintro ((h7 | h7) | h7)
          · exact .inl (List.mem_of_mem_take h7)
          · exact .inr h7
          · exact .inl (List.mem_of_mem_drop h7)
        · rintro (h7 | h7)
          · rw [← List.take_append_drop k l] at h7
            rcases List.mem_append.1 h7 with h8 | h8
            · exact .inl (.inl h8)
            · exact .inr h8
          · exact .inl (.inr h7)
      · simp; omega
    rw [h.len]
    refine cond_dec (fun hlt => ?_) (fun hge => ?_)
    · have hk' : k < l.length := by omega
      refine h.ixI hk' fun q _ hc => LD_int hc ?_
      refine cond_eq (fun he => ?_) (fun hne => hput fun hm => ?_)
      · refine ⟨Ext.refl _, l, h.weak (fun b hb _ => .inl hb) RepP.pos, hsorted, fun x => ⟨.inl, ?_⟩, by omega⟩
        rintro (h7 | h7)
        · exact h7
        · rw [h7, ← he]; exact List.getElem_mem hk'
      · rw [← List.take_append_drop k l] at hm
        rcases List.mem_append.1 hm with h7 | h7
        · have := hlo n h7; omega
        · rw [List.drop_eq_getElem_cons hk'] at h7
          rcases List.mem_cons.1 h7 with h8 | h8
          · exact hne h8.symm
          · have hp := hsorted
            rw [← List.take_append_drop k l, List.pairwise_append] at hp
            have := hp.2.1
            rw [List.drop_eq_getElem_cons hk', List.pairwise_cons] at this
            have h9 := this.1 n h8
            have h10 := hhi l[k] ((List.drop_eq_getElem_cons hk').symm ▸ List.mem_cons_self)
            omega
    · refine hput fun hm => ?_
      have : k = l.length := by omega
      subst this
      have := hlo n (by simpa using hm)
      omega
  refine ⟨IN l.length fun k w' => w = w' ∧ ∀ x ∈ l.take k, x < n, MN l.length, IN_zero ⟨rfl, by simp⟩, ?_⟩
  rintro _ w1 ⟨k, rfl, hk, rfl, hlo⟩
  intros
  refine cond_dec (fun hlt => ?_) (fun hge => ?_)
  · have hk' : k < l.length := by omega
    refine h.ixI hk' fun q _ hc => LD_int hc ?_
    refine cond_dec (fun h1 => IN_next h.le hk' ⟨rfl, fun x hx => ?_⟩) (fun h1 => hfin k hk hlo fun x hx => ?_)
    · rw [List.take_succ_eq_append_getElem hk'] at hx
      rcases List.mem_append.1 hx with h2 | h2
      · exact hlo x h2
      · rw [List.mem_singleton.1 h2]; exact h1
    · rw [List.drop_eq_getElem_cons hk'] at hx
      have hp := hsorted
      rw [← List.take_append_drop k l, List.pairwise_append] at hp
      have := hp.2.1
      rw [List.drop_eq_getElem_cons hk', List.pairwise_cons] at this
      rcases List.mem_cons.1 hx with rfl | h2
      · omega
      · have := this.1 x h2; omega
  · have : k = l.length := by omega
    subst this
    exact hfin _ (Nat.le_refl _) hlo (by simp)

theorem l1Put_ok {w : World} {s : Sl} {l : List Int} (h : R w s l) (hl : l.length ≤ 100000) (hsorted : l.Pairwise (· < ·)) {n : Int} (hn : I64 n) :
    Calls Tryz.prog F.s_l1Put #[s.v, .int .i64 n] w (Ret [.at .sl] fun (r : Sl) w' => Ext w w' ∧ ∃ m, R w' r m ∧ m.Pairwise (· < ·) ∧ (∀ x, x ∈ m ↔ x ∈ l ∨ x = n) ∧ m.length ≤ l.length + 1) :=
  call (l1Put_D h hl hsorted hn) fun _ _ ⟨h1, m, h2, h3⟩ => ⟨h1, m, h2.any, h3⟩

/-! ### The greedy set -/

instance (E : Ends) (l : List Int) (v : Nat) : Decidable (Apart E l v) := by unfold Apart; exact inferInstance

/-- May a node join? -/
def joins (E : Ends) (S : List Int) (v : Int) : Prop := (adjOf E v.toNat).contains v = false ∧ Apart E S v.toNat
instance (E : Ends) (S : List Int) (v : Int) : Decidable (joins E S v) := by unfold joins; exact inferInstance
structure OrderAsked (n : Net) (l : List Int) : Prop where
  good : Good n
  perm : PermOk l n.ends.length

theorem sortI_I64 {l : List Int} (h : ∀ x ∈ l, I64 x) : ∀ x ∈ sortI l, I64 x := fun x hx => h x ((sortI_perm l).mem_iff.1 hx)
end Go.Proofs.YtfiginahjofdnaaGreat
end

section
/- Lists of lists of the call's own whose rows lie apart: rows that are written, that grow, that are added. No program is named here. -/
namespace Go.GX
open Go.RowKit

/-- The slice s of the call's own holds the rows ss, which read as the lists L and lie in blocks of their own. -/
structure RowsD {α : Type} [Flat α] (w : World) (base : Nat) (e e' : TypeId) (s : Sl) (L : List (List α)) (ss : List Sl) : Prop where
  own : OwnL w base e' s ss
  len : ss.length = L.length
  row : ∀ (i : Nat) (r : Sl) (l : List α), ss[i]? = some r → L[i]? = some l → OwnL w base e r l
  apart : ∀ (i j : Nat) (r q : Sl), ss[i]? = some r → ss[j]? = some q → i ≠ j → ∀ k, r.v.ownBlock = some k → q.v.ownBlock ≠ some k

section
variable {α : Type} [Flat α] {w w' : World} {base : Nat} {e e' : TypeId} {s : Sl} {L : List (List α)} {ss : List Sl}

theorem RowsD.own2 (h : RowsD w base e e' s L ss) : Own2 w base e e' s L := ⟨ss, h.own, h.len, h.row⟩
theorem RowsD.rep (h : RowsD w base e e' s L ss) (hok : ∀ l ∈ L, ∀ x ∈ l, Flat.ok x) : R w s L := h.own2.rep hok
theorem RowsD.nil (w : World) (base : Nat) (e e' : TypeId) : RowsD w base e e' ⟨none, 0, 0⟩ ([] : List (List α)) [] := ⟨OwnL.nil _ _ _, rfl, fun i r l h => by simp at h, fun i j r q h => by simp at h⟩
theorem RowsD.keep (h : RowsD w base e e' s L ss) (hk : ∀ k, base ≤ k → k < w.heap.size → w'.heap[k]? = w.heap[k]?) : RowsD w' base e e' s L ss :=
  ⟨h.own.keep fun k hb => hk k (h.own.blk k hb).1 (h.own.blk k hb).2, h.len, fun i r l hr hl => (h.row i r l hr hl).keep fun k hb => hk k ((h.row i r l hr hl).blk k hb).1 ((h.row i r l hr hl).blk k hb).2, h.apart⟩
theorem RowsD.ext (h : RowsD w base e e' s L ss) (hE : Ext w w') : RowsD w' base e e' s L ss := h.keep fun _ _ hk => hE.same hk
theorem RowsD.low (h : RowsD w base e e' s L ss) {b : Nat} (hb : b ≤ base) : RowsD w b e e' s L ss := ⟨h.own.low hb, h.len, fun i r l hr hl => (h.row i r l hr hl).low hb, h.apart⟩

theorem RowsD.at (h : RowsD w base e e' s L ss) {i : Nat} (hi : i < L.length) : ∃ r, ss[i]? = some r ∧ OwnL w base e r L[i] := by
  have h1 : i < ss.length := by rw [h.len]; exact hi
  exact ⟨ss[i], by simp [h1], h.row i ss[i] L[i] (by simp [h1]) (by simp [hi])⟩

/-- Looking up a row. -/
theorem RowsD.ix (h : RowsD w base e e' s L ss) {i : Nat} (hi : i < L.length) {K : Addr → Prop} (hk : ∀ p r, ss[i]? = some r → OwnL w base e r L[i] → w.cell? p = some r.v → s.v.ownBlock = some p.block → K p) : IX s i 1 K := by
  obtain ⟨r, hr, hO⟩ := h.at hi
  obtain ⟨a, cs, ha, _, hrep, hc⟩ := (h.own.rep fun _ _ => trivial).2.2 i r hr
  have hcs : cs = [r.v] := hrep
  subst hcs
  have hlen := h.own.1
  have hl2 := h.len
  refine ⟨a, ha, by omega, by omega, hk _ r hr hO (hc 0 _ rfl) ?_⟩
  have hsv : s.v = .slice (some a) s.len s.cap := by simp [Sl.v, ha]
  rw [hsv, add_block]
  rcases h.own.2.2 with ⟨hv, h0⟩ | ⟨g, cap, cur, hv, _⟩
  · omega
  · rw [hsv] at hv
    obtain ⟨h1, _⟩ := Value.slice.inj hv
    cases h1
    rfl

theorem RowsD.block_ne (h : RowsD w base e e' s L ss) (hne : e ≠ e') {i : Nat} {r : Sl} (hr : ss[i]? = some r) {k : Nat} (hk : r.v.ownBlock = some k) : s.v.ownBlock ≠ some k := fun he => by
  have hi : i < L.length := by rw [← h.len]; exact (List.getElem?_eq_some_iff.1 hr).1
  obtain ⟨c1, e1⟩ := (h.row i r L[i] hr (by simp [hi])).type hk
  obtain ⟨c2, e2⟩ := h.own.type he
  rw [e1] at e2
  exact hne (Obj.cells.inj (Option.some.inj e2)).2.1

/-- A row that is written in place. -/
theorem RowsD.chg (h : RowsD w base e e' s L ss) (hne : e ≠ e') {i : Nat} {r : Sl} (hr : ss[i]? = some r) {l' : List α} (hO : OwnL w' base e r l') (hs : Step w w' r.v.ownBlock) : RowsD w' base e e' s (L.set i l') ss := by
  have hi : i < L.length := by rw [← h.len]; exact (List.getElem?_eq_some_iff.1 hr).1
  refine ⟨h.own.keep fun k hk => hs.block k (h.own.blk k hk).2 fun he => h.block_ne hne hr he.symm hk, by simp [h.len], fun j q l hq hl => ?_, h.apart⟩
  by_cases hji : j = i
  · subst hji
    rw [List.getElem?_set_self hi] at hl
    rw [hr] at hq
    cases hl; cases hq
    exact hO
  · rw [List.getElem?_set_ne (Ne.symm hji)] at hl
    have hq' := h.row j q l hq hl
    exact hq'.keep fun k hk => hs.block k (hq'.blk k hk).2 fun he => h.apart i j r q hr hq (Ne.symm hji) k he.symm hk

/-- A row that is replaced: what it became lies in its block or in a new one. -/
theorem RowsD.put (h : RowsD w base e e' s L ss) (hne : e ≠ e') {i : Nat} (hi : i < L.length) {r r' : Sl} (hr : ss[i]? = some r) {w1 : World} {l' : List α} (hO : OwnL w1 base e r' l') (hs : Step w w1 r.v.ownBlock) (hn : NewOr w r r') {p : Addr} (hp : Plc s i 1 p) {K : World → Prop}
    (hk : ∀ w2, RowsD w2 base e e' s (L.set i l') (ss.set i r') → Step w1 w2 s.v.ownBlock → K w2) : ST p 0 [r'.v] w1 K := by
  have hi' : i < ss.length := by rw [h.len]; exact hi
  have hown : OwnL w1 base e' s ss := h.own.keep fun k hk => hs.block k (h.own.blk k hk).2 fun he => h.block_ne hne hr he.symm hk
  have hlt : ∀ (j : Nat) (q : Sl), ss[j]? = some q → ∀ k, q.v.ownBlock = some k → k < w.heap.size := fun j q hq k hk => by
    have hj : j < L.length := by rw [← h.len]; exact (List.getElem?_eq_some_iff.1 hq).1
    exact ((h.row j q L[j] hq (by simp [hj])).blk k hk).2
  have hap : ∀ (j : Nat) (q : Sl), ss[j]? = some q → j ≠ i → ∀ k, r'.v.ownBlock = some k → q.v.ownBlock ≠ some k := fun j q hq hji k hk hqk => by
    rcases hn with hn | hn
    · rw [hn] at hk
      exact h.apart i j r q hr hq (Ne.symm hji) k hk hqk
    · have := hn k hk
      have := hlt j q hq k hqk
      omega
  refine ST_own hown hi' (p := p) hp r' rfl fun w2 hO2 hs2 => hk w2 ⟨hO2, by simp [h.len], fun j q l hq hl => ?_, fun j k q q' hq hq' hjk => ?_⟩ hs2
  · have hst : ∀ {q : Sl} {l : List α}, OwnL w1 base e q l → OwnL w2 base e q l := fun hq => hq.step hown hne hs2
    by_cases hji : j = i
    · subst hji
      rw [List.getElem?_set_self hi] at hl
      rw [List.getElem?_set_self hi'] at hq
      cases hl; cases hq
      exact hst hO
    · rw [List.getElem?_set_ne (Ne.symm hji)] at hl hq
      have hq' := h.row j q l hq hl
      exact hst (hq'.keep fun k hk => hs.block k (hq'.blk k hk).2 fun he => h.apart i j r q hr hq (Ne.symm hji) k he.symm hk)
  · by_cases hji : j = i
    · subst hji
      rw [List.getElem?_set_self hi'] at hq
      rw [List.getElem?_set_ne hjk] at hq'
      cases hq
      exact hap k q' hq' (Ne.symm hjk)
    · rw [List.getElem?_set_ne (Ne.symm hji)] at hq
      by_cases hki : k = i
      · subst hki
        rw [List.getElem?_set_self hi'] at hq'
        cases hq'
        exact fun b hb hb' => hap j q hq hji b hb' hb
      · rw [List.getElem?_set_ne (Ne.symm hki)] at hq'
        exact h.apart j k q q' hq hq' hjk

end

/-- One more row. -/
theorem RUN_append_rowDF {α : Type} [Flat α] {P : Program} {t e e' : TypeId} {bytes : Nat} {z : Value} (hT : SlT P t e' 1 bytes z) (hne : e ≠ e') {w : World} {base b1 : Nat} {s y r : Sl} {L : List (List α)} {ss : List Sl} {l : List α} (h : RowsD w base e e' s L ss) (hbase : base ≤ w.heap.size)
    (hr : OwnL w base e r l) (hnew : ∀ (j : Nat) (q : Sl), ss[j]? = some q → ∀ k, q.v.ownBlock = some k → r.v.ownBlock ≠ some k) (hy : OwnL w b1 e' y [r]) (hlen : (L.length + 1) * bytes ≤ 140737488355328) (hmax : L.length + 1 ≤ maxLen) {K : Sl → World → Prop}
    (hk : ∀ s' w', RowsD w' base e e' s' (L ++ [l]) (ss ++ [r]) → Step w w' s.v.ownBlock → NewOr w s s' → K s' w') : RUN P (.at .sl) (bsem .append #[t, t] t #[s.v, y.v]) w K := by
  have hl2 := h.len
  refine RUN_appendF (α := Sl) hT h.own hbase (hy.rep fun _ _ => trivial).any (by simp [hl2]; exact hlen) (by simp [hl2]; exact hmax) fun s' w' hO hs hN => hk s' w' ⟨hO, by simp [hl2], fun i q m hq hm => ?_, fun i j q q' hq hq' hij => ?_⟩ hs hN
  · by_cases hi : i < ss.length
    · rw [List.getElem?_append_left hi] at hq
      rw [List.getElem?_append_left (by omega)] at hm
      exact (h.row i q m hq hm).step h.own hne hs
    · rw [List.getElem?_append_right (by omega)] at hq
      rw [List.getElem?_append_right (by omega), ← hl2] at hm
      have : i - ss.length = 0 := by
        have := (List.getElem?_eq_some_iff.1 hq).1
        simp at this; omega
      rw [this] at hq hm
      simp at hq hm
      subst hq; subst hm
      exact hr.step h.own hne hs
  · have hcase : ∀ {i : Nat} {q : Sl}, (ss ++ [r])[i]? = some q → (i < ss.length ∧ ss[i]? = some q) ∨ (i = ss.length ∧ q = r) := fun {i q} hq => by
      by_cases hi : i < ss.length
      · rw [List.getElem?_append_left hi] at hq; exact .inl ⟨hi, hq⟩
      · rw [List.getElem?_append_right (by omega)] at hq
        have h1 := (List.getElem?_eq_some_iff.1 hq).1
        simp at h1
        have h2 : i = ss.length := by omega
        subst h2
        simp at hq
        exact .inr ⟨rfl, hq.symm⟩
    rcases hcase hq with ⟨h1, h2⟩ | ⟨h1, rfl⟩ <;> rcases hcase hq' with ⟨h3, h4⟩ | ⟨h3, rfl⟩
    · exact h.apart i j q q' h2 h4 hij
    · exact hnew i q h2
    · exact fun k hk hk' => hnew j q' h4 k hk' hk
    · omega

theorem RUN_append_rowD {α : Type} [Flat α] {P : Program} {t e e' : TypeId} {bytes : Nat} {z : Value} (hT : SlT P t e' 1 bytes z) (hne : e ≠ e') {w : World} {base b1 : Nat} {s y r : Sl} {L : List (List α)} {ss : List Sl} {l : List α} (h : RowsD w base e e' s L ss) (hbase : base ≤ w.heap.size)
    (hr : OwnL w base e r l) (hnew : ∀ (j : Nat) (q : Sl), ss[j]? = some q → ∀ k, q.v.ownBlock = some k → r.v.ownBlock ≠ some k) (hy : OwnL w b1 e' y [r]) (hlen : (L.length + 1) * bytes ≤ 140737488355328) (hmax : L.length + 1 ≤ maxLen) {K : Sl → World → Prop}
    (hk : ∀ s' w', RowsD w' base e e' s' (L ++ [l]) (ss ++ [r]) → Step w w' s.v.ownBlock → K s' w') : RUN P (.at .sl) (bsem .append #[t, t] t #[s.v, y.v]) w K :=
  RUN_append_rowDF hT hne h hbase hr hnew hy hlen hmax fun s' w' h1 h2 _ => hk s' w' h1 h2

/-- One more row, made behind the others. -/
theorem RowsD.fresh {α : Type} [Flat α] {w w' : World} {base b1 : Nat} {e e' : TypeId} {s r : Sl} {L : List (List α)} {ss : List Sl} {l : List α} (h : RowsD w base e e' s L ss) (hr : OwnL w' b1 e r l) (hb : w.heap.size ≤ b1) : ∀ (j : Nat) (q : Sl), ss[j]? = some q → ∀ k, q.v.ownBlock = some k → r.v.ownBlock ≠ some k := fun j q hq k hk hrk => by
  have hj : j < L.length := by rw [← h.len]; exact (List.getElem?_eq_some_iff.1 hq).1
  have h1 := ((h.row j q L[j] hq (by simp [hj])).blk k hk).2
  have h2 := (hr.blk k hrk).1
  omega

end Go.GX
end

section
/- What the laws do with matrices: copy, compare, measure. Turned from our texts on a network's ends. -/
namespace Go.Proofs.YtfiginahjofdnaaGreat
open Go.GX Go.RowKit
set_option maxRecDepth 100000

theorem slt_rows : SlT Tryz.prog T.t_sl_sl_int T.t_sl_int 1 24 (.slice none 0 0) := ⟨by kernel_rfl, by kernel_rfl, rfl, by decide⟩

theorem toIntSS_own {w : World} {a : Sl} {l : List (List Int)} (h : R w a l) (hb : l.length ≤ 1048576) (hbb : ∀ r ∈ l, r.length ≤ 1048576) :
    Calls Tryz.prog F.l_toIntSS #[a.v] w (Ret [.at .sl] fun (s : Sl) w' => Ext w w' ∧ Own2 w' w.heap.size T.t_int T.t_sl_int s l) := by
  refine C_l_toIntSS ?_
  unfold V_l_toIntSS
  rw [h.len]
  refine RUN_make (α := Sl) slt_rows (d := ⟨none, 0, 0⟩) rfl (by omega) (by unfold maxLen; omega) fun s w1 hE1 hO1 => ?_
  refine ⟨IN l.length fun i w' => Ext w w' ∧ ∃ ss : List Sl, ss.length = l.length ∧ OwnL w' w.heap.size T.t_sl_int s ss ∧ ∀ (k : Nat) (q : Sl) (m : List Int), k < i → ss[k]? = some q → l[k]? = some m → OwnL w' w.heap.size T.t_int q m, MN l.length,
    IN_zero ⟨hE1, List.replicate l.length ⟨none, 0, 0⟩, by simp, hO1, fun k _ _ h3 => by omega⟩, ?_⟩
  rintro x w2 ⟨i, rfl, hi, hE, ss, hss, hO, hR⟩
  intros
  refine cond_dec (fun hlt => ?_) (fun hge => ?_)
  · have hlt' : i < l.length := by omega
    refine (h.ext hE).ixL hlt' fun p s' hs' hc => LD_sl hc ?_
    have hz := hE.size_le
    refine call (toIntS_ok hs'.any (hbb _ (List.getElem_mem _))) ?_
    rintro s3 w3 ⟨hE3, hO3⟩
    have hO' := hO.ext hE3
    refine IX_own hO' (by omega) rfl fun p hp => ?_
    refine ST_own hO' (by omega) hp s3 rfl fun w4 hO4 hs => ?_
    refine IN_next (by omega) hlt' ⟨hs.ext0 (hE.trans hE3) (fun k hk => (hO'.blk k hk).1), ss.set i s3, by simp [hss], hO4, fun k q m h1 h2 h3 => ?_⟩
    by_cases hk : k = i
    · subst hk
      rw [List.getElem?_set_self (by omega)] at h2
      rw [List.getElem?_eq_getElem hlt'] at h3
      cases h2
      cases h3
      exact (hO3.low hz).step hO' (by decide) hs
    · rw [List.getElem?_set_ne (Ne.symm hk)] at h2
      exact ((hR k q m (by omega) h2 h3).ext hE3).step hO' (by decide) hs
  · have : i = l.length := by omega
    subst this
    refine ⟨hE, ss, hO, hss, fun k q m h2 h3 => hR k q m (List.getElem?_eq_some_iff.1 h3).1 h2 h3⟩

theorem flat_okII {w : World} {s : Sl} {l : List (List Int)} (h : R w s l) : ∀ r ∈ l, ∀ x ∈ r, Flat.ok x := fun r hr x hx => by
  obtain ⟨i, hi, rfl⟩ := List.mem_iff_getElem.1 hr
  obtain ⟨_, _, _, _, ⟨s', _, h1⟩, _⟩ := h.2.2 i l[i] (by simp [hi])
  exact flat_ok h1 x hx

theorem eqIntSS_ok {w : World} {a b : Sl} {l m : List (List Int)} (ha : R w a l) (hb : R w b m) :
    Calls Tryz.prog F.l_eqIntSS #[a.v, b.v] w (Ret [.at .bool] fun (x : Bool) w' => x = decide (l = m) ∧ Ext w w') := by
  refine C_l_eqIntSS ?_
  unfold V_l_eqIntSS
  rw [ha.len, hb.len]
  refine cond_ne (fun hne => ⟨?_, Ext.refl _⟩) (fun he => ?_)
  · rw [decide_eq_false]; intro h; subst h; exact hne rfl
  · have hl : l.length = m.length := by omega
    refine ⟨IN l.length fun i w' => Ext w w' ∧ l.take i = m.take i, MN l.length, IN_zero ⟨Ext.refl _, by simp⟩, ?_⟩
    rintro x w1 ⟨i, rfl, hi, hE, ht⟩
    intros
    refine cond_dec (fun hlt => ?_) (fun hge => ⟨?_, hE⟩)
    · have h1 : i < l.length := by omega
      have h2 : i < m.length := by omega
      refine (ha.ext hE).ixL h1 fun p s1 hs1 hc => LD_sl hc ?_
      refine (hb.ext hE).ixL h2 fun p s2 hs2 hc => LD_sl hc ?_
      refine QCALL_bool _ (fun w' hw' => eqIntS_ok (hs1.any.ext hw') (hs2.any.ext hw')) ?_
      intro w2 hE2
      refine cond_not (fun hf => ⟨?_, hE.trans hE2⟩) (fun htr => ?_)
      · rw [decide_eq_false]; intro h; subst h; simp at hf
      · have heq : l[i] = m[i] := of_decide_eq_true htr
        exact IN_next ha.le h1 ⟨hE.trans hE2, by rw [List.take_succ_eq_append_getElem h1, List.take_succ_eq_append_getElem h2, ht, heq]⟩
    · have h3 : i = l.length := by omega
      subst h3
      rw [decide_eq_true]
      have h4 : m.take l.length = m := List.take_of_length_le (by omega)
      rw [h4, List.take_length] at ht
      exact ht

/-! ### Marks in matrices -/

/-- How many numbers lie in the first rows. -/
def pre (L : List (List Int)) (i : Nat) : Nat := ((L.take i).map List.length).sum
theorem pre_zero (L : List (List Int)) : pre L 0 = 0 := by simp [pre]
theorem pre_succ {L : List (List Int)} {i : Nat} (hi : i < L.length) : pre L (i + 1) = pre L i + L[i].length := by
  unfold pre
  rw [List.take_succ_eq_append_getElem hi, List.map_append, List.sum_append]
  simp
theorem pre_le {L : List (List Int)} (hL : ∀ r ∈ L, r.length ≤ 1048576) : ∀ i, i ≤ L.length → pre L i ≤ 1048576 * i
  | 0, _ => by simp [pre]
  | i + 1, hi => by
    have ih := pre_le hL i (by omega)
    rw [pre_succ (by omega)]
    have := hL _ (List.getElem_mem (show i < L.length by omega))
    omega

def marks2 (k : Int) (L : List (List Int)) : List (List Int) := (List.range L.length).map fun i => marks (k + pre L i) (L.getD i []).length
theorem marks2_len (k : Int) (L : List (List Int)) : (marks2 k L).length = L.length := by simp [marks2]
theorem marks2_get {k : Int} {L : List (List Int)} {i : Nat} (hi : i < L.length) : (marks2 k L)[i]'(by rw [marks2_len]; exact hi) = marks (k + pre L i) L[i].length := by
  simp [marks2, hi]

/-- A matrix of the call's own: its rows lie apart from each other. -/
structure OutM (base : Nat) (w : World) (s : Sl) (L : List (List Int)) : Prop where
  ex : ∃ ss : List Sl, RowsD w base T.t_int T.t_sl_int s L ss
  i64 : ∀ r ∈ L, ∀ x ∈ r, I64 x
  rows : L.length ≤ 1048576
  small : ∀ r ∈ L, r.length ≤ 1048576

theorem OutM.own2 {base : Nat} {w : World} {s : Sl} {L : List (List Int)} (h : OutM base w s L) : Own2 w base T.t_int T.t_sl_int s L := by
  obtain ⟨ss, h1, h2, h3, _⟩ := h.ex
  exact ⟨ss, h1, h2, h3⟩
theorem OutM.rep {base : Nat} {w : World} {s : Sl} {L : List (List Int)} (h : OutM base w s L) : R w s L := h.own2.rep h.i64
theorem OutM.keep {base : Nat} {w w' : World} {s : Sl} {L : List (List Int)} (h : OutM base w s L) (hk : ∀ k, base ≤ k → k < w.heap.size → w'.heap[k]? = w.heap[k]?) : OutM base w' s L := by
  obtain ⟨ss, h1, h2, h3, h4⟩ := h.ex
  exact ⟨⟨ss, h1.keep fun k hb => hk k (h1.blk k hb).1 (h1.blk k hb).2, h2, fun i r l hr hl => (h3 i r l hr hl).keep fun k hb => hk k ((h3 i r l hr hl).blk k hb).1 ((h3 i r l hr hl).blk k hb).2, h4⟩, h.i64, h.rows, h.small⟩
theorem OutM.ext {base : Nat} {w w' : World} {s : Sl} {L : List (List Int)} (h : OutM base w s L) (hE : Ext w w') : OutM base w' s L := h.keep fun _ _ hk => hE.same hk
theorem OutM.chgR {base lo hi : Nat} {w w' : World} {s : Sl} {L : List (List Int)} (h : OutM base w s L) (hC : Chg w w' (fun b => lo ≤ b ∧ b < hi)) (hh : hi ≤ base) : OutM base w' s L :=
  h.keep fun k hk hlt => hC.block k hlt fun hD => by have := hD.2; omega
theorem OutM.nil (base : Nat) (w : World) : OutM base w ⟨none, 0, 0⟩ [] := ⟨⟨[], OwnL.nil _ _ _, rfl, fun i r l h => by simp at h, fun i j r q h => by simp at h⟩, by simp, by simp, by simp⟩
theorem OutM.low {base b : Nat} {w : World} {s : Sl} {L : List (List Int)} (h : OutM base w s L) (hb : b ≤ base) : OutM b w s L := by
  obtain ⟨ss, h1, h2, h3, h4⟩ := h.ex
  exact ⟨⟨ss, h1.low hb, h2, fun i r l hr hl => (h3 i r l hr hl).low hb, h4⟩, h.i64, h.rows, h.small⟩

theorem rows_apart {w w' : World} {base base' : Nat} {r q : Sl} {l m : List Int} (h : OwnL w base T.t_int r l) (_ : OwnL w base' T.t_int q m) (hd : ∀ k, r.v.ownBlock = some k → q.v.ownBlock ≠ some k) (hs : Step w w' q.v.ownBlock) : OwnL w' base T.t_int r l :=
  h.keep fun k hk => hs.block k (h.blk k hk).2 fun he => hd k hk he.symm

/-- The blocks of a matrix's rows. -/
def RB (ss : List Sl) (b : Nat) : Prop := ∃ r ∈ ss, r.v.ownBlock = some b

theorem markIntSS_rows {base : Nat} {w : World} {s : Sl} {L : List (List Int)} {ss : List Sl} (hM : RowsD w base T.t_int T.t_sl_int s L ss) (hrows : L.length ≤ 1048576) (hsmall : ∀ r ∈ L, r.length ≤ 1048576) (k : Int) (h0 : 0 ≤ k) (h1 : k ≤ 1125899906842624000) :
    Calls Tryz.prog F.l_markIntSS #[s.v, .int .i64 k] w (Ret [.at (.int .i64)] fun (r : Int) w' => r = k + pre L L.length ∧ RowsD w' base T.t_int T.t_sl_int s (marks2 k L) ss ∧ Chg w w' (RB ss)) := by
  refine C_l_markIntSS ?_
  unfold V_l_markIntSS
  obtain ⟨hO, hlen, hR, hD⟩ := hM
  rw [hO.1]
  have hpl := fun i hi => pre_le hsmall i hi
  refine ⟨IN2 ss.length fun i r w' => r = k + pre L i ∧ OwnL w' base T.t_sl_int s ss ∧ (∀ (j : Nat) (q : Sl) (l : List Int), ss[j]? = some q → (if j < i then marks2 k L else L)[j]? = some l → OwnL w' base T.t_int q l) ∧ Chg w w' (RB ss), MN2 ss.length,
    IN2_zero ⟨by simp [pre], hO, by simpa using hR, Chg.refl _ _⟩, ?_⟩
  rintro _ _ w1 ⟨i, rfl, hi, rfl, hO1, hR1, hC1⟩
  intros
  refine cond_dec (fun hlt => ?_) (fun hge => ?_)
  · have hi' : i < ss.length := by omega
    have hiL : i < L.length := by omega
    refine (hO1.rep fun _ _ => trivial).ix (n := 1) rfl (by omega) (by omega) fun p cs hrep hc => ?_
    simp only [Int.toNat_natCast] at hrep
    have hcs : cs = [ss[i].v] := hrep
    subst hcs
    refine LD_sl (hc 0 _ rfl) ?_
    have hOi := hR1 i ss[i] L[i] (by simp [hi']) (by simp [hiL])
    have hp := hpl i (by omega)
    refine call (markIntS_ok hOi (k + pre L i) (by omega) (by omega) (hsmall _ (List.getElem_mem hiL))) ?_
    rintro r w2 ⟨rfl, hO2, hs2⟩
    refine IN2_next (by omega) hi' ⟨by rw [pre_succ hiL]; omega, hO1.keep fun b hb => hs2.block b (hO1.blk b hb).2 fun he => ?_, fun j q l hq hl => ?_, hC1.trans (.of_step hs2 fun b hb => ⟨ss[i], List.getElem_mem hi', hb⟩)⟩
    · obtain ⟨c1, e1⟩ := hO1.type hb
      obtain ⟨c2, e2⟩ := hOi.type he.symm
      rw [e1] at e2
      exact absurd (Obj.cells.inj (Option.some.inj e2)).2.1 (by decide)
    · by_cases hji : j = i
      · subst hji
        rw [if_pos (by omega), List.getElem?_eq_getElem (by rw [marks2_len]; exact hiL), marks2_get hiL] at hl
        rw [List.getElem?_eq_getElem hi'] at hq
        cases hq
        cases hl
        exact hO2
      · have hl' : (if j < i then marks2 k L else L)[j]? = some l := by
          by_cases hj : j < i
          · rw [if_pos (by omega)] at hl; rw [if_pos hj]; exact hl
          · rw [if_neg (by omega)] at hl; rw [if_neg hj]; exact hl
        exact rows_apart (hR1 j q l hq hl') hOi (hD j i q ss[i] hq (by simp [hi']) hji) hs2
  · have : i = ss.length := by omega
    subst this
    exact ⟨by rw [hlen], ⟨hO1, by rw [marks2_len]; exact hlen, fun j q l hq hl => hR1 j q l hq (by rw [if_pos (List.getElem?_eq_some_iff.1 hq).1]; exact hl), hD⟩, hC1⟩

theorem marks2_I64 {k : Int} {L : List (List Int)} (h0 : 0 ≤ k) (h1 : k ≤ 1125899906842624000) (hrows : L.length ≤ 1048576) (hsmall : ∀ r ∈ L, r.length ≤ 1048576) : ∀ r ∈ marks2 k L, ∀ x ∈ r, I64 x := fun r hr x hx => by
  obtain ⟨j, hj, rfl⟩ := List.mem_iff_getElem.1 hr
  have hjL : j < L.length := by rwa [marks2_len] at hj
  rw [marks2_get hjL] at hx
  have := pre_le hsmall j (by omega)
  have := hsmall _ (List.getElem_mem hjL)
  exact marks_I64 (by omega) (by omega) x hx

theorem markIntSS_out {base : Nat} {w : World} {s : Sl} {L : List (List Int)} (h : OutM base w s L) (k : Int) (h0 : 0 ≤ k) (h1 : k ≤ 1125899906842624000) :
    Calls Tryz.prog F.l_markIntSS #[s.v, .int .i64 k] w (Ret [.at (.int .i64)] fun (r : Int) w' => r = k + pre L L.length ∧ R w' s (marks2 k L) ∧ Chg w w' (fun b => base ≤ b)) := by
  obtain ⟨ss, hM⟩ := h.ex
  refine call (markIntSS_rows hM h.rows h.small k h0 h1) ?_
  rintro r w' ⟨hr, hM', hC⟩
  refine ⟨hr, hM'.rep (marks2_I64 h0 h1 h.rows h.small), hC.mono ?_⟩
  rintro b ⟨q, hq, hb⟩
  obtain ⟨i, hi, rfl⟩ := List.mem_iff_getElem.1 hq
  have hl := hM.len
  exact ((hM.row i ss[i] (L[i]'(by omega)) (by simp [hi]) (by simp)).blk b hb).1

/-! ### Two matrices that lie apart -/

/-- The blocks of a matrix. -/
def MB (s : Sl) (ss : List Sl) (b : Nat) : Prop := s.v.ownBlock = some b ∨ RB ss b

theorem _root_.Go.GX.RowsD.blk {w : World} {base : Nat} {s : Sl} {L : List (List Int)} {ss : List Sl} (h : RowsD w base T.t_int T.t_sl_int s L ss) {b : Nat} (hb : MB s ss b) : base ≤ b ∧ b < w.heap.size := by
  rcases hb with hb | ⟨r, hr, hb⟩
  · exact h.own.blk b hb
  · obtain ⟨i, hi, rfl⟩ := List.mem_iff_getElem.1 hr
    have hl := h.len
    exact (h.row i ss[i] (L[i]'(by omega)) (by simp [hi]) (by simp)).blk b hb

theorem _root_.Go.GX.RowsD.keepB {w w' : World} {base : Nat} {s : Sl} {L : List (List Int)} {ss : List Sl} (h : RowsD w base T.t_int T.t_sl_int s L ss) (hk : ∀ b, MB s ss b → w'.heap[b]? = w.heap[b]?) : RowsD w' base T.t_int T.t_sl_int s L ss :=
  ⟨h.own.keep fun b hb => hk b (.inl hb), h.len, fun i r l hr hl => (h.row i r l hr hl).keep fun b hb => hk b (.inr ⟨r, List.mem_of_getElem? hr, hb⟩), h.apart⟩

structure Out2M (base : Nat) (w : World) (s : Sl) (L : List (List Int)) (s' : Sl) (L' : List (List Int)) : Prop where
  ex : ∃ ss ss' : List Sl, RowsD w base T.t_int T.t_sl_int s L ss ∧ RowsD w base T.t_int T.t_sl_int s' L' ss' ∧ ∀ b, MB s ss b → ¬ MB s' ss' b
  i64 : ∀ r ∈ L, ∀ x ∈ r, I64 x
  rows : L.length ≤ 1048576
  small : ∀ r ∈ L, r.length ≤ 1048576
  i64' : ∀ r ∈ L', ∀ x ∈ r, I64 x
  rows' : L'.length ≤ 1048576
  small' : ∀ r ∈ L', r.length ≤ 1048576

theorem Out2M.keep {base : Nat} {w w' : World} {s s' : Sl} {L L' : List (List Int)} (h : Out2M base w s L s' L') (hk : ∀ k, base ≤ k → k < w.heap.size → w'.heap[k]? = w.heap[k]?) : Out2M base w' s L s' L' := by
  obtain ⟨ss, ss', h1, h2, h3⟩ := h.ex
  exact ⟨⟨ss, ss', h1.keepB fun b hb => hk b (h1.blk hb).1 (h1.blk hb).2, h2.keepB fun b hb => hk b (h2.blk hb).1 (h2.blk hb).2, h3⟩, h.i64, h.rows, h.small, h.i64', h.rows', h.small'⟩
theorem Out2M.ext {base : Nat} {w w' : World} {s s' : Sl} {L L' : List (List Int)} (h : Out2M base w s L s' L') (hE : Ext w w') : Out2M base w' s L s' L' := h.keep fun _ _ hk => hE.same hk
theorem Out2M.chgR {base lo hi : Nat} {w w' : World} {s s' : Sl} {L L' : List (List Int)} (h : Out2M base w s L s' L') (hC : Chg w w' (fun b => lo ≤ b ∧ b < hi)) (hh : hi ≤ base) : Out2M base w' s L s' L' :=
  h.keep fun k hk hlt => hC.block k hlt fun hD => by have := hD.2; omega
theorem Out2M.nil (base : Nat) (w : World) : Out2M base w ⟨none, 0, 0⟩ [] ⟨none, 0, 0⟩ [] :=
  ⟨⟨[], [], RowsD.nil _ _ _ _, RowsD.nil _ _ _ _, fun b hb => (by
    rcases hb with hb | ⟨r, hr, _⟩
    · cases hb
    · cases hr)⟩, by simp, by simp, by simp, by simp, by simp, by simp⟩
theorem Out2M.low {base b : Nat} {w : World} {s s' : Sl} {L L' : List (List Int)} (h : Out2M base w s L s' L') (hb : b ≤ base) : Out2M b w s L s' L' := by
  obtain ⟨ss, ss', h1, h2, h3⟩ := h.ex
  exact ⟨⟨ss, ss', ⟨h1.own.low hb, h1.len, fun i r l hr hl => (h1.row i r l hr hl).low hb, h1.apart⟩, ⟨h2.own.low hb, h2.len, fun i r l hr hl => (h2.row i r l hr hl).low hb, h2.apart⟩, h3⟩, h.i64, h.rows, h.small, h.i64', h.rows', h.small'⟩
theorem Out2M.rep {base : Nat} {w : World} {s s' : Sl} {L L' : List (List Int)} (h : Out2M base w s L s' L') : R w s L := by
  obtain ⟨ss, ss', h1, _, _⟩ := h.ex
  exact h1.rep h.i64
theorem heldIntSS_ok {w : World} {s : Sl} {L : List (List Int)} (k : Int) (h : R w s (marks2 k L)) (h0 : 0 ≤ k) (h1 : k ≤ 1125899906842624000) (hl : L.length ≤ 1048576) (hll : ∀ r ∈ L, r.length ≤ 1048576) :
    Calls Tryz.prog F.l_heldIntSS #[s.v, .int .i64 k] w (Ret [.at (.int .i64)] fun (r : Int) w' => r = k + pre L L.length ∧ w = w') := by
  refine C_l_heldIntSS ?_
  unfold V_l_heldIntSS
  rw [h.len, marks2_len]
  have hpl := fun i hi => pre_le hll i hi
  refine ⟨IN2 L.length fun i r w' => r = k + pre L i ∧ w = w', MN2 L.length, IN2_zero ⟨by simp [pre], rfl⟩, ?_⟩
  rintro _ _ w1 ⟨i, rfl, hi, rfl, rfl⟩
  intros
  refine cond_dec (fun hlt => ?_) (fun hge => ?_)
  · have hiL : i < L.length := by omega
    refine h.ixL (by rw [marks2_len]; exact hiL) fun p r hr hc => LD_sl hc ?_
    rw [marks2_get hiL] at hr
    have hp := hpl i (by omega)
    have hrl := hll _ (List.getElem_mem hiL)
    refine call (heldIntS_ok (k + pre L i) hr.any (by omega) (by omega) hrl) ?_
    rintro r _ ⟨rfl, rfl⟩
    refine cond_df (by omega) ?_
    exact IN2_next (by omega) hiL ⟨by rw [pre_succ hiL]; omega, rfl⟩
  · have : i = L.length := by omega
    subst this
    exact ⟨rfl, rfl⟩

theorem mintss_of {w : World} {base : Nat} {s : Sl} {L : List (List Int)} (h : Own2 w base T.t_int T.t_sl_int s L) (hl : L.length ≤ 1048576) (hll : ∀ r ∈ L, r.length ≤ 1048576) : MIntSS w s base w.heap.size := by
  obtain ⟨ss, h1, h2, h3⟩ := h
  refine ⟨ss, h1, by omega, fun r hr => ?_⟩
  obtain ⟨i, hi, rfl⟩ := List.mem_iff_getElem.1 hr
  have hiL : i < L.length := by omega
  have hO := h3 i ss[i] L[i] (by simp [hi]) (by simp [hiL])
  refine ⟨mint_of hO (hll _ (List.getElem_mem hiL)), fun b hb he => ?_⟩
  obtain ⟨c1, e1⟩ := hO.type (blkOf_own hO hb)
  obtain ⟨c2, e2⟩ := h1.type he
  rw [e1] at e2
  exact absurd (Obj.cells.inj (Option.some.inj e2)).2.1 (by decide)

theorem MIntSS.chg {w w' : World} {s : Sl} {lo hi : Nat} (h : MIntSS w s lo hi) (hS : Shp w w') {l2 h2 : Nat} (hC : Chg w w' (fun b => l2 ≤ b ∧ b < h2)) (hlo : h2 ≤ lo) : MIntSS w' s lo hi := by
  obtain ⟨ss, h1, h3, h4⟩ := h.ex
  exact ⟨ss, h1.chg hC fun b hb hD => by have := (h1.blk b hb).1; have := hD.2; omega, h3, fun r hr => ⟨(h4 r hr).1.shp hS, (h4 r hr).2⟩⟩

theorem MIntSS.ext {w w' : World} {s : Sl} {lo hi : Nat} (h : MIntSS w s lo hi) (hE : Ext w w') : MIntSS w' s lo hi := by
  obtain ⟨ss, h1, h3, h4⟩ := h.ex
  exact ⟨ss, h1.ext hE, h3, fun r hr => ⟨(h4 r hr).1.ext hE, (h4 r hr).2⟩⟩

theorem markIntSS_ok {w : World} {s : Sl} {lo hi : Nat} (h : MIntSS w s lo hi) (k : Int) (h0 : 0 ≤ k) (h1 : k ≤ 1125899906842624000) :
    Calls Tryz.prog F.l_markIntSS #[s.v, .int .i64 k] w (Ret [.at (.int .i64)] fun (r : Int) w' => 0 ≤ r ∧ r ≤ k + 1099511627776 ∧ Shp w w' ∧ Chg w w' (fun b => lo ≤ b ∧ b < hi)) := by
  obtain ⟨ss, hO, hl, hr⟩ := h.ex
  refine C_l_markIntSS ?_
  unfold V_l_markIntSS
  rw [hO.1]
  refine ⟨IN2 ss.length fun i r w' => 0 ≤ r ∧ r ≤ k + 1048576 * i ∧ Shp w w' ∧ Chg w w' (fun b => (lo ≤ b ∧ b < hi) ∧ s.v.ownBlock ≠ some b), MN2 ss.length, IN2_zero ⟨by omega, by omega, Shp.refl _, Chg.refl _ _⟩, ?_⟩
  rintro x _ w1 ⟨i, rfl, hi', hx0, hx1, hS, hC⟩
  intros
  refine cond_dec (fun hlt => ?_) (fun hge => ?_)
  · have hi2 : i < ss.length := by omega
    have hO1 : OwnL w1 lo T.t_sl_int s ss := hO.chg hC fun b hb hD => hD.2 hb
    refine (hO1.rep fun _ _ => trivial).ix (n := 1) rfl (by omega) (by omega) fun p cs hrep hc => ?_
    simp only [Int.toNat_natCast] at hrep
    have hcs : cs = [ss[i].v] := hrep
    subst hcs
    refine LD_sl (hc 0 _ rfl) ?_
    obtain ⟨hm, hb⟩ := hr _ (List.getElem_mem hi2)
    have hml := hm.len
    refine call (markIntS_wr (hm.wr.shp hS) x hx0 (by omega) hm.len) ?_
    rintro r w2 ⟨rfl, hS2, hC2⟩
    exact IN2_next (by omega) hi2 ⟨by omega, by omega, hS.trans hS2, hC.trans (hC2.mono fun b hb' => ⟨hm.blk b hb', hb b hb'⟩)⟩
  · have : i = ss.length := by omega
    subst this
    exact ⟨hx0, by omega, hS, hC.mono fun b hb => hb.1⟩

end Go.Proofs.YtfiginahjofdnaaGreat
end

section
/- Configurations: lists of labels in order, both sides. -/
namespace Go.Proofs.YtfiginahjofdnaaGreat
open Go.GX Go.RowKit
set_option maxRecDepth 100000

/-! ### Lists in the dictionary's order -/

def cmpL : List Int → List Int → Int
  | [], [] => 0
  | [], _ :: _ => -1
  | _ :: _, [] => 1
  | x :: a, y :: b => if x < y then -1 else if y < x then 1 else cmpL a b

theorem cmpL_zero : ∀ {a b : List Int}, cmpL a b = 0 ↔ a = b
  | [], [] => by simp [cmpL]
  | [], _ :: _ => by simp [cmpL]
  | _ :: _, [] => by simp [cmpL]
  | x :: a, y :: b => by
    rw [cmpL, List.cons.injEq, ← cmpL_zero (a := a) (b := b)]
    by_cases h1 : x < y
    · rw [if_pos h1]
      constructor
      · intro h; omega
      · intro h; omega
    · by_cases h2 : y < x
      · rw [if_neg h1, if_pos h2]
        constructor
        · intro h; omega
        · intro h; omega
      · rw [if_neg h1, if_neg h2]
        constructor
        · intro h; exact ⟨by omega, h⟩
        · intro h; exact h.2

theorem cmpL_trans : ∀ {a b c : List Int}, cmpL a b < 0 → cmpL b c < 0 → cmpL a c < 0
  | [], [], _, h, _ => by simp [cmpL] at h
  | [], _ :: _, [], _, h => by simp [cmpL] at h
  | [], _ :: _, _ :: _, _, _ => by simp [cmpL]
  | _ :: _, [], _, h, _ => by simp [cmpL] at h
  | _ :: _, _ :: _, [], _, h => by simp [cmpL] at h
  | x :: a, y :: b, z :: c, h, h' => by
    rw [cmpL] at h h' ⊢
    by_cases h1 : x < y
    · by_cases h2 : y < z
      · rw [if_pos (by omega)]; omega
      · rw [if_neg h2] at h'
        by_cases h3 : z < y
        · rw [if_pos h3] at h'; omega
        · rw [if_pos (by omega)]; omega
    · rw [if_neg h1] at h
      by_cases h4 : y < x
      · rw [if_pos h4] at h; omega
      · rw [if_neg h4] at h
        by_cases h2 : y < z
        · rw [if_pos (by omega)]; omega
        · rw [if_neg h2] at h'
          by_cases h3 : z < y
          · rw [if_pos h3] at h'; omega
          · rw [if_neg h3] at h'
            rw [if_neg (by omega), if_neg (by omega)]
            exact cmpL_trans h h'

/-- What is asked of a list of configurations. -/
structure ConfOk (L : List (List Int)) (size labels : Int) : Prop where
  row : ∀ i (h : i < L.length), (L[i].length : Int) = size ∧ L[i].Pairwise (· ≤ ·) ∧ AllIn L[i] 0 (labels - 1)
  rise : ∀ i (h : i + 1 < L.length), cmpL L[i] L[i + 1] < 0

theorem ConfOk.lt {L : List (List Int)} {size labels : Int} (h : ConfOk L size labels) : ∀ j i (_ : i < j) (hj : j < L.length), cmpL (L[i]'(by omega)) L[j] < 0 := by
  intro j
  induction j with
  | zero => intro i hi; omega
  | succ j ih =>
    intro i hi hj
    have h1 := h.rise j hj
    rcases Nat.lt_or_eq_of_le (Nat.le_of_lt_succ hi) with h2 | h2
    · exact cmpL_trans (ih i h2 (by omega)) h1
    · subst h2; exact h1

/-- Pairwise in order, told by neighbours. -/
theorem sorted_next : ∀ {l : List Int}, (∀ k (h : k + 1 < l.length), l[k] ≤ l[k + 1]) ↔ l.Pairwise (· ≤ ·)
  | [] => by simp
  | [x] => by simp
  | x :: y :: l => by
    have ih := sorted_next (l := y :: l)
    rw [List.pairwise_cons, ← ih]
    constructor
    · intro h
      have ht : ∀ k (h : k + 1 < (y :: l).length), (y :: l)[k] ≤ (y :: l)[k + 1] := fun k hk => h (k + 1) (by simp at hk ⊢; omega)
      refine ⟨fun z hz => ?_, ht⟩
      have hxy : x ≤ y := h 0 (by simp)
      have hp := List.pairwise_cons.1 (ih.1 ht)
      rcases List.mem_cons.1 hz with rfl | hz
      · exact hxy
      · exact Int.le_trans hxy (hp.1 z hz)
    · rintro ⟨h1, h2⟩ k hk
      cases k with
      | zero => exact h1 y (by simp)
      | succ k => exact h2 k (by simp at hk ⊢; omega)

/-! ### Comparing -/

theorem isNaN_ok (x : Int) (w : World) : Calls Tryz.prog F.cmp_isNaN_int #[.int .i64 x] w (Ret [.at .bool] fun (b : Bool) w' => b = false ∧ w = w') := by
  refine C_cmp_isNaN_int ?_
  unfold V_cmp_isNaN_int
  exact ⟨by simp, rfl⟩

theorem cmpLess_ok (x y : Int) (w : World) : Calls Tryz.prog F.cmp_Less_int #[.int .i64 x, .int .i64 y] w (Ret [.at .bool] fun (b : Bool) w' => b = decide (x < y) ∧ w = w') := by
  refine C_cmp_Less_int ?_
  unfold V_cmp_Less_int
  refine call (isNaN_ok _ _) ?_
  rintro _ _ ⟨rfl, rfl⟩
  exact cond_b (fun h => by cases h) (fun _ => ⟨rfl, rfl⟩)

theorem cmpCompare_ok (x y : Int) (w : World) : Calls Tryz.prog F.cmp_Compare_int #[.int .i64 x, .int .i64 y] w (Ret [.at (.int .i64)] fun (r : Int) w' => r = (if x < y then -1 else if y < x then 1 else 0) ∧ w = w') := by
  refine C_cmp_Compare_int ?_
  unfold V_cmp_Compare_int
  refine call (isNaN_ok _ _) ?_
  rintro _ _ ⟨rfl, rfl⟩
  refine call (isNaN_ok _ _) ?_
  rintro _ _ ⟨rfl, rfl⟩
  refine cond_b (fun h => by cases h) (fun _ => cond_b (fun h => by cases h) (fun _ => ?_))
  refine cond_dec (fun h => ⟨by rw [if_pos h], rfl⟩) (fun h => cond_dec (fun h2 => ⟨by rw [if_neg h, if_pos h2], rfl⟩) (fun h2 => ⟨by rw [if_neg h, if_neg h2], rfl⟩))

theorem compare_ok {w : World} {s t : Sl} {a b : List Int} (ha : R w s a) (hb : R w t b) :
    Calls Tryz.prog F.slices_Compare_sl_int_int #[s.v, t.v] w (Ret [.at (.int .i64)] fun (r : Int) w' => r = cmpL a b ∧ w = w') := by
  refine C_slices_Compare_sl_int_int ?_
  unfold V_slices_Compare_sl_int_int
  rw [ha.len, hb.len]
  refine ⟨IN a.length fun i w' => w = w' ∧ i ≤ b.length ∧ cmpL a b = cmpL (a.drop i) (b.drop i), MN a.length, IN_zero ⟨rfl, by omega, by simp⟩, ?_⟩
  rintro _ _ ⟨i, rfl, hi, rfl, hib, he⟩
  intros
  refine cond_dec (fun hlt => ?_) (fun hge => ?_)
  · have hi' : i < a.length := by omega
    have hda : a.drop i = a[i] :: a.drop (i + 1) := List.drop_eq_getElem_cons hi'
    refine ha.ixI hi' fun q _ hc => LD_int hc ?_
    refine cond_dec (fun hge => ⟨?_, rfl⟩) (fun hlt2 => ?_)
    · have hdb0 : b.drop i = [] := List.drop_of_length_le (by omega)
      rw [he, hda, hdb0]; rfl
    have hi2 : i < b.length := by omega
    have hdb : b.drop i = b[i] :: b.drop (i + 1) := List.drop_eq_getElem_cons hi2
    refine hb.ixI hi2 fun q _ hc => LD_int hc ?_
    refine call (cmpCompare_ok _ _ _) ?_
    rintro _ _ ⟨rfl, rfl⟩
    rw [hda, hdb, cmpL] at he
    refine cond_ne (fun hne => ⟨?_, rfl⟩) (fun heq => ?_)
    · rw [he]
      by_cases h1 : a[i] < b[i]
      · rw [if_pos h1, if_pos h1]
      · by_cases h2 : b[i] < a[i]
        · rw [if_neg h1, if_pos h2, if_neg h1, if_pos h2]
        · rw [if_neg h1, if_neg h2] at hne; exact absurd rfl hne
    · have h1 : ¬ a[i] < b[i] := fun h => by
        have heq' : (if a[i] < b[i] then (-1 : Int) else if b[i] < a[i] then 1 else 0) = 0 := heq
        rw [if_pos h] at heq'; omega
      have h2 : ¬ b[i] < a[i] := fun h => by
        have heq' : (if a[i] < b[i] then (-1 : Int) else if b[i] < a[i] then 1 else 0) = 0 := heq
        rw [if_neg h1, if_pos h] at heq'; omega
      rw [if_neg h1, if_neg h2] at he
      exact IN_next ha.le hi' ⟨rfl, by omega, he⟩
  · have : i = a.length := by omega
    subst this
    rw [List.drop_length] at he
    refine cond_dec (fun hlt => ⟨?_, rfl⟩) (fun hge2 => ⟨?_, rfl⟩)
    · have hi2 : a.length < b.length := by omega
      rw [he, List.drop_eq_getElem_cons hi2]; rfl
    · rw [he, List.drop_of_length_le (by omega)]; rfl

theorem isSorted_ok {w : World} {s : Sl} {l : List Int} (h : R w s l) :
    Calls Tryz.prog F.slices_IsSorted_sl_int_int #[s.v] w (Ret [.at .bool] fun (b : Bool) w' => (b = true ↔ l.Pairwise (· ≤ ·)) ∧ Ext w w') := by
  refine C_slices_IsSorted_sl_int_int ?_
  unfold V_slices_IsSorted_sl_int_int
  have hle := h.le
  rw [h.len, wrap_of (by omega) (by omega)]
  rw [← sorted_next]
  refine ⟨fun (i : Int) w' => Ext w w' ∧ -1 ≤ i ∧ i ≤ (l.length : Int) - 1 ∧ ∀ k (hk : k + 1 < l.length), i ≤ k → l[k] ≤ l[k + 1], fun i _ => (i + 1).toNat, ⟨Ext.refl _, by omega, by omega, fun k hk hi => by omega⟩, ?_⟩
  rintro i w1 ⟨hE, hi0, hi1, hall⟩
  intros
  refine cond_dec (fun hpos => ?_) (fun hnp => ⟨by simp only [true_iff]; exact fun k hk => hall k hk (by omega), hE⟩)
  obtain ⟨m, rfl⟩ : ∃ m : Nat, i = (m : Int) + 1 := ⟨(i - 1).toNat, by omega⟩
  have hm : m + 1 < l.length := by omega
  have hcast : (m : Int) + 1 = ((m + 1 : Nat) : Int) := by omega
  rw [show (m : Int) + 1 - 1 = (m : Int) by omega, wrap_of (n := (m : Int)) (by omega) (by omega), hcast]
  refine (h.ext hE).ixI hm fun q _ hc => LD_int hc ?_
  refine (h.ext hE).ixI (i := m) (by omega) fun q _ hc => LD_int hc ?_
  refine QCALL_bool (decide (l[m + 1] < l[m])) (fun w' _ => call (cmpLess_ok _ _ _) fun _ _ ⟨h1, h2⟩ => ⟨h1, h2 ▸ Ext.refl _⟩) ?_
  intro w2 hE2
  refine cond_dec (fun hlt => ⟨?_, hE.trans hE2⟩) (fun hge => ?_)
  · simp only [Bool.false_eq_true, false_iff]
    intro hh
    have := hh m hm
    omega
  · refine ⟨⟨hE.trans hE2, by omega, by omega, fun k hk hmk => ?_⟩, by simp only; omega⟩
    by_cases he : k = m
    · subst he; omega
    · exact hall k hk (by omega)

/-! ### The reference's side -/

theorem l1Sign_ok (n : Int) (w : World) : Calls Tryz.prog F.s_l1Sign #[.int .i64 n] w (Ret [.at (.int .i64)] fun (r : Int) w' => r = (if n < 0 then -1 else if 0 < n then 1 else 0) ∧ w = w') := by
  refine C_s_l1Sign ?_
  unfold V_s_l1Sign
  refine cond_dec (fun h => ⟨by rw [if_neg (by omega), if_pos h], rfl⟩) (fun h => cond_dec (fun h2 => ⟨by rw [if_pos h2], rfl⟩) (fun h2 => ⟨by rw [if_neg h2, if_neg h], rfl⟩))

theorem prOrder_ok {w : World} {s t : Sl} {a b : List Int} (ha : R w s a) (hb : R w t b) (hl : a.length = b.length) {c : Int} (hc8 : c ≤ 1000) (hA : AllIn a 0 c) (hB : AllIn b 0 c) :
    Calls Tryz.prog F.s_prOrder #[s.v, t.v] w (Ret [.at (.int .i64)] fun (r : Int) w' => r = cmpL a b ∧ w = w') := by
  refine C_s_prOrder ?_
  unfold V_s_prOrder
  rw [ha.len]
  refine ⟨IN a.length fun i w' => w = w' ∧ cmpL a b = cmpL (a.drop i) (b.drop i), MN a.length, IN_zero ⟨rfl, by simp⟩, ?_⟩
  rintro _ _ ⟨i, rfl, hi, rfl, he⟩
  intros
  refine cond_dec (fun hlt => ?_) (fun hge => ?_)
  · have hi' : i < a.length := by omega
    have hi2 : i < b.length := by omega
    have hda : a.drop i = a[i] :: a.drop (i + 1) := List.drop_eq_getElem_cons hi'
    have hdb : b.drop i = b[i] :: b.drop (i + 1) := List.drop_eq_getElem_cons hi2
    have h1 := hA _ (List.getElem_mem hi')
    have h2 := hB _ (List.getElem_mem hi2)
    rw [hda, hdb, cmpL] at he
    refine ha.ixI hi' fun q _ hc => LD_int hc ?_
    refine hb.ixI hi2 fun q _ hc => LD_int hc ?_
    refine cond_ne (fun hne => ?_) (fun heq => ?_)
    · refine hb.ixI hi2 fun q _ hc => LD_int hc ?_
      rw [wrap_of (by omega) (by omega)]
      refine call (l1Sign_ok _ _) ?_
      rintro _ _ ⟨rfl, rfl⟩
      refine ⟨?_, rfl⟩
      rw [he]
      by_cases h3 : a[i] < b[i]
      · rw [if_pos h3, if_pos (by omega)]
      · have hne' : a[i] ≠ b[i] := hne
        rw [if_neg h3, if_neg (by omega), if_pos (by omega), if_pos (by omega)]
    · have heq' : a[i] = b[i] := heq
      rw [if_neg (by omega), if_neg (by omega)] at he
      exact IN_next ha.le hi' ⟨rfl, he⟩
  · have : i = a.length := by omega
    subst this
    rw [List.drop_length, List.drop_of_length_le (by omega)] at he
    exact ⟨he.symm, rfl⟩

end Go.Proofs.YtfiginahjofdnaaGreat
end

section
/- Plain facts on walk problems and rooted problems: arcs, pruning, roots. No program in sight. -/
namespace Go.Proofs.YtfiginahjofdnaaGreat
open Go.GX
set_option maxRecDepth 100000

structure WPr where
  labels : Int
  arcs : List (List Int)
structure RPr where
  labels : Int
  children : Int
  lines : List (List Int)

def arcE (A : List (List Int)) (a b : Nat) : Prop := [(a : Int), (b : Int)] ∈ A
/-- Rows that rise and have labels. -/
structure RowsUp (L : List (List Int)) (size labels : Int) : Prop where
  len : ∀ x ∈ L, (x.length : Int) = size
  lab : ∀ x ∈ L, AllIn x 0 (labels - 1)
  up : ∀ i (h : i + 1 < L.length), cmpL L[i] L[i + 1] < 0
theorem RowsUp.lt {L : List (List Int)} {size labels : Int} (h : RowsUp L size labels) : ∀ j i (_ : i < j) (hj : j < L.length), cmpL (L[i]'(by omega)) L[j] < 0 := by
  intro j
  induction j with
  | zero => intro i hi; omega
  | succ j ih =>
    intro i hi hj
    have h2 := h.up j hj
    by_cases he : i = j
    · subst he; exact h2
    · exact cmpL_trans (ih i (by omega) (by omega)) h2

structure WGood (p : WPr) : Prop where
  lab : 1 ≤ p.labels ∧ p.labels ≤ 12
  up : RowsUp p.arcs 2 p.labels
structure RoGood (p : RPr) : Prop where
  lab : 1 ≤ p.labels ∧ p.labels ≤ 8
  chi : 1 ≤ p.children ∧ p.children ≤ 3
  up : RowsUp p.lines (p.children + 1) p.labels
  sort : ∀ x ∈ p.lines, x.tail.Pairwise (· ≤ ·)

/-- Two rising lists with the same members. -/
theorem up_unique : ∀ {L M : List (List Int)}, L.Pairwise (fun x y => cmpL x y < 0) → M.Pairwise (fun x y => cmpL x y < 0) → (∀ x, x ∈ L ↔ x ∈ M) → L = M
  | [], [], _, _, _ => rfl
  | [], m :: M, _, _, h => by have := (h m).2 (by simp); simp at this
  | l :: L, [], _, _, h => by have := (h l).1 (by simp); simp at this
  | l :: L, m :: M, h1, h2, h => by
    rw [List.pairwise_cons] at h1 h2
    have irr : ∀ x, ¬ cmpL x x < 0 := fun x => by rw [cmpL_zero.2 rfl]; omega
    have e : l = m := by
      rcases List.mem_cons.1 ((h l).1 (by simp)) with h3 | h3
      · exact h3
      · rcases List.mem_cons.1 ((h m).2 (by simp)) with h4 | h4
        · exact h4.symm
        · exact absurd (cmpL_trans (h1.1 m h4) (h2.1 l h3)) (irr l)
    subst e
    rw [up_unique h1.2 h2.2 fun x => ⟨fun hx => ?_, fun hx => ?_⟩]
    · rcases List.mem_cons.1 ((h x).1 (List.mem_cons_of_mem _ hx)) with h3 | h3
      · subst h3; exact absurd (h1.1 x hx) (irr x)
      · exact h3
    · rcases List.mem_cons.1 ((h x).2 (List.mem_cons_of_mem _ hx)) with h3 | h3
      · subst h3; exact absurd (h2.1 x hx) (irr x)
      · exact h3

/-! ### The path form -/

/-- Some line with labels of a set has a label above another. -/
def pathE (lines : List (List Int)) (S : List Int) (a b : Nat) : Prop := ∃ x ∈ lines, (∀ y ∈ x, y ∈ S) ∧ x.head? = some (a : Int) ∧ (b : Int) ∈ x.tail

/-- The arcs of a path form, in order: rising, and these alone. -/
structure PathArcs (lines : List (List Int)) (S : List Int) (A : List (List Int)) : Prop where
  up : A.Pairwise (fun x y => cmpL x y < 0)
  mem : ∀ y, y ∈ A ↔ ∃ x ∈ lines, (∀ z ∈ x, z ∈ S) ∧ ∃ a, x.head? = some a ∧ ∃ b ∈ x.tail, y = [a, b]

theorem PathArcs.unique {lines : List (List Int)} {S : List Int} {A B : List (List Int)} (h : PathArcs lines S A) (h' : PathArcs lines S B) : A = B :=
  up_unique h.up h'.up fun x => (h.mem x).trans (h'.mem x).symm

theorem PathArcs.rel {lines : List (List Int)} {S : List Int} {A : List (List Int)} (h : PathArcs lines S A) : arcE A = pathE lines S := by
  funext a b
  refine propext ((h.mem _).trans ⟨?_, ?_⟩)
  · rintro ⟨x, hx, hS, c, hc, d, hd, he⟩
    simp only [List.cons.injEq, and_true] at he
    obtain ⟨rfl, rfl⟩ := he
    exact ⟨x, hx, hS, hc, hd⟩
  · rintro ⟨x, hx, hS, hc, hd⟩
    exact ⟨x, hx, hS, _, hc, _, hd, rfl⟩

theorem PathArcs.good {R : RPr} (hR : RoGood R) {S : List Int} {A : List (List Int)} (h : PathArcs R.lines S A) : WGood ⟨R.labels, A⟩ := by
  have hm : ∀ y ∈ A, (y.length : Int) = 2 ∧ AllIn y 0 (R.labels - 1) := fun y hy => by
    obtain ⟨x, hx, _, a, ha, b, hb, rfl⟩ := (h.mem y).1 hy
    refine ⟨rfl, fun z hz => ?_⟩
    have hl := hR.up.lab x hx
    simp only [List.mem_cons, List.not_mem_nil, or_false] at hz
    rcases hz with rfl | rfl
    · exact hl _ (List.mem_of_head? ha)
    · exact hl _ (List.mem_of_mem_tail hb)
  have hl := hR.lab
  exact ⟨⟨hl.1, by show R.labels ≤ 12; omega⟩, ⟨fun y hy => (hm y hy).1, fun y hy => (hm y hy).2, fun i hi => (List.pairwise_iff_getElem.1 h.up) i (i + 1) (by have : i + 1 < A.length := hi; omega) hi (by omega)⟩⟩

/-! ### Pruning -/

def allL (n : Nat) : List Int := (List.range n).map fun a : Nat => (a : Int)
noncomputable def pruneL (R : RPr) : Nat → List Int
  | 0 => allL R.labels.toNat
  | k + 1 => flexL (pathE R.lines (pruneL R k)) R.labels.toNat

/-- Where pruning ends. -/
def PruneEnd (R : RPr) (k : Nat) : Prop := pruneL R (k + 1) = [] ∨ pruneL R (k + 1) = pruneL R k
structure PruneIs (R : RPr) (L : List (List Int)) : Prop where
  ex : ∃ k, PruneEnd R k ∧ (∀ j < k, ¬ PruneEnd R j) ∧ L = (List.range (k + 2)).map (pruneL R)
theorem PruneIs.unique {R : RPr} {L M : List (List Int)} (h : PruneIs R L) (h' : PruneIs R M) : L = M := by
  obtain ⟨k, h1, h2, rfl⟩ := h.ex
  obtain ⟨j, h3, h4, rfl⟩ := h'.ex
  rcases Nat.lt_trichotomy k j with hlt | rfl | hgt
  · exact absurd h1 (h4 k hlt)
  · rfl
  · exact absurd h3 (h2 j hgt)

/-- A label of a closed walk in the path form is in the set. -/
theorem flex_sub {R : RPr} {S : List Int} {n : Nat} : ∀ x ∈ flexL (pathE R.lines S) n, x ∈ S := fun x hx => by
  obtain ⟨a, rfl, _, ⟨k, hk, hw⟩, _⟩ := flexL_mem.1 hx
  obtain ⟨k, rfl⟩ : ∃ j, k = j + 1 := ⟨k - 1, by omega⟩
  obtain ⟨c, _, x, _, hS, _, hb⟩ := hw
  exact hS _ (List.mem_of_mem_tail hb)

theorem pruneL_sorted (R : RPr) : ∀ k, (pruneL R k).Pairwise (· < ·)
  | 0 => by
    unfold pruneL allL
    rw [List.pairwise_map]
    exact List.pairwise_lt_range.imp fun h => by omega
  | k + 1 => flexL_sorted _ _

theorem lt_sub_sublist : ∀ {l m : List Int}, l.Pairwise (· < ·) → m.Pairwise (· < ·) → (∀ x ∈ l, x ∈ m) → l.Sublist m
  | [], m, _, _, _ => List.nil_sublist m
  | a :: l, [], _, _, h => by have := h a (by simp); simp at this
  | a :: l, b :: m, h1, h2, h => by
    rw [List.pairwise_cons] at h1 h2
    rcases List.mem_cons.1 (h a (by simp)) with he | hm
    · subst he
      refine (lt_sub_sublist h1.2 h2.2 fun x hx => ?_).cons_cons a
      rcases List.mem_cons.1 (h x (by simp [hx])) with h3 | h3
      · subst h3; have := h1.1 x hx; omega
      · exact h3
    · refine (lt_sub_sublist (l := a :: l) (List.pairwise_cons.2 h1) h2.2 fun x hx => ?_).cons b
      rcases List.mem_cons.1 hx with rfl | hx
      · exact hm
      · rcases List.mem_cons.1 (h x (by simp [hx])) with h3 | h3
        · subst h3
          have := h1.1 x hx
          have := h2.1 a hm
          omega
        · exact h3

theorem prune_sublist (R : RPr) (k : Nat) : (pruneL R (k + 1)).Sublist (pruneL R k) := lt_sub_sublist (pruneL_sorted R _) (pruneL_sorted R _) flex_sub

/-- The labels of one list that are in another one, if the second one is part of the first. -/
theorem shared_eq {l m : List Int} (hl : l.Pairwise (· < ·)) (hm : m.Pairwise (· < ·)) (h : ∀ x ∈ m, x ∈ l) : l.filter (fun x => m.contains x) = m := by
  have h1 : (l.filter fun x => m.contains x).Pairwise (· < ·) := hl.filter _
  exact (lt_sub_sublist h1 hm fun x hx => by simpa using (List.mem_filter.1 hx).2).eq_of_length_le (lt_sub_sublist hm h1 fun x hx => List.mem_filter.2 ⟨h x hx, by simpa using hx⟩).length_le

theorem prune_len (R : RPr) (k : Nat) : (pruneL R k).length ≤ R.labels.toNat - k ∨ ∃ j, j < k ∧ PruneEnd R j := by
  induction k with
  | zero => left; simp [pruneL, allL]
  | succ k ih =>
    rcases ih with ih | ⟨j, hj, he⟩
    · by_cases hE : PruneEnd R k
      · exact .inr ⟨k, by omega, hE⟩
      · left
        have hs := prune_sublist R k
        have hle := hs.length_le
        have hne : (pruneL R (k + 1)).length ≠ (pruneL R k).length := fun he => hE (.inr (hs.eq_of_length he))
        have h0 : 0 < (pruneL R (k + 1)).length := List.length_pos_iff.2 fun he => hE (.inl he)
        omega
    · exact .inr ⟨j, by omega, he⟩

/-! ### The labels of roots -/

/-- Some line of a label has labels of a set alone behind the first one. -/
def Above (lines : List (List Int)) (S : List Int) (a : Nat) : Prop := ∃ x ∈ lines, x.head? = some (a : Int) ∧ ∀ y ∈ x.tail, y ∈ S
noncomputable def aboveL (lines : List (List Int)) (S : List Int) (n : Nat) : List Int := by
  classical exact ((List.range n).filter (fun a => decide (Above lines S a))).map fun a : Nat => (a : Int)
theorem aboveL_mem {lines : List (List Int)} {S : List Int} {n : Nat} {x : Int} : x ∈ aboveL lines S n ↔ ∃ a : Nat, x = a ∧ a < n ∧ Above lines S a := by
  classical
  unfold aboveL
  rw [List.mem_map]
  constructor
  · rintro ⟨a, ha, rfl⟩
    rw [List.mem_filter] at ha
    exact ⟨a, rfl, List.mem_range.1 ha.1, by simpa using ha.2⟩
  · rintro ⟨a, rfl, h1, h2⟩
    exact ⟨a, List.mem_filter.2 ⟨List.mem_range.2 h1, by simpa using h2⟩, rfl⟩
theorem aboveL_sorted (lines : List (List Int)) (S : List Int) (n : Nat) : (aboveL lines S n).Pairwise (· < ·) := by
  classical
  unfold aboveL
  rw [List.pairwise_map]
  exact (List.pairwise_lt_range.filter _).imp fun h => by omega
noncomputable def rootsL (R : RPr) : Nat → List Int
  | 0 => allL R.labels.toNat
  | k + 1 => aboveL R.lines (rootsL R k) R.labels.toNat
theorem allL_mem {n : Nat} {x : Int} : x ∈ allL n ↔ ∃ a : Nat, x = a ∧ a < n := by
  unfold allL
  rw [List.mem_map]
  exact ⟨fun ⟨a, h, e⟩ => ⟨a, e.symm, List.mem_range.1 h⟩, fun ⟨a, e, h⟩ => ⟨a, List.mem_range.2 h, e.symm⟩⟩
theorem rootsL_sorted (R : RPr) : ∀ k, (rootsL R k).Pairwise (· < ·)
  | 0 => pruneL_sorted R 0
  | _ + 1 => aboveL_sorted _ _ _
theorem rootsL_sub (R : RPr) : ∀ k, ∀ x ∈ rootsL R (k + 1), x ∈ rootsL R k
  | 0, x, hx => by
    obtain ⟨a, rfl, h1, _⟩ := aboveL_mem.1 hx
    exact allL_mem.2 ⟨a, rfl, h1⟩
  | k + 1, x, hx => by
    obtain ⟨a, rfl, h1, y, h2, h3, h4⟩ := aboveL_mem.1 hx
    exact aboveL_mem.2 ⟨a, rfl, h1, y, h2, h3, fun z hz => rootsL_sub R k z (h4 z hz)⟩
theorem rootsL_lab (R : RPr) : ∀ k, ∀ x ∈ rootsL R k, ∃ a : Nat, x = a ∧ a < R.labels.toNat
  | 0, x, hx => allL_mem.1 hx
  | _ + 1, x, hx => by
    obtain ⟨a, h0, h1, _⟩ := aboveL_mem.1 hx
    exact ⟨a, h0, h1⟩
theorem rootsL_fix {R : RPr} {k : Nat} (h : rootsL R (k + 1) = rootsL R k) : ∀ j, k ≤ j → rootsL R j = rootsL R k := by
  intro j hj
  obtain ⟨d, rfl⟩ : ∃ d, j = k + d := ⟨j - k, by omega⟩
  clear hj
  induction d with
  | zero => rfl
  | succ d ih =>
    show aboveL R.lines (rootsL R (k + d)) R.labels.toNat = _
    rw [ih]
    exact h
theorem rootsL_len (R : RPr) (k : Nat) : (rootsL R k).length + k ≤ R.labels.toNat ∨ ∃ j, j < k ∧ rootsL R (j + 1) = rootsL R j := by
  induction k with
  | zero => left; simp [rootsL, allL]
  | succ k ih =>
    rcases ih with ih | ⟨j, hj, he⟩
    · by_cases hE : rootsL R (k + 1) = rootsL R k
      · exact .inr ⟨k, by omega, hE⟩
      · left
        have hs := lt_sub_sublist (rootsL_sorted R (k + 1)) (rootsL_sorted R k) (rootsL_sub R k)
        have hle := hs.length_le
        have hne : (rootsL R (k + 1)).length ≠ (rootsL R k).length := fun he => hE (hs.eq_of_length he)
        omega
    · exact .inr ⟨j, by omega, he⟩
noncomputable def lastingL (R : RPr) : List Int := rootsL R (R.labels.toNat + 1)
theorem lasting_of {R : RPr} {k : Nat} (h : rootsL R (k + 1) = rootsL R k) : rootsL R k = lastingL R := by
  unfold lastingL
  rcases Nat.lt_or_ge (R.labels.toNat + 1) k with hlt | hge
  · rcases rootsL_len R (R.labels.toNat + 1) with h1 | ⟨j, hj, he⟩
    · omega
    · rw [rootsL_fix he _ (show j ≤ k by omega), rootsL_fix he _ (show j ≤ R.labels.toNat + 1 by omega)]
  · exact (rootsL_fix h _ hge).symm

end Go.Proofs.YtfiginahjofdnaaGreat
end

section
/- Walk problems, the program: what follows a label, what walks reach. -/
namespace Go.Proofs.YtfiginahjofdnaaGreat
open Go.GX Go.RowKit
set_option maxRecDepth 100000

structure RWk (w : World) (s : Sl) (p : WPr) : Prop where
  lab : I64 p.labels
  arcs : R w s p.arcs
theorem RWk.ext {w w' : World} {s : Sl} {p : WPr} (h : RWk w s p) (hE : Ext w w') : RWk w' s p := ⟨h.lab, h.arcs.ext hE⟩

theorem LD_is {w : World} {p : Addr} {t : TypeId} {x : Int} {z : Sl} {r : List Value} {K : Int → Sl → Prop} (hb : Box w p t (.int .i64 x :: z.v :: r)) (hk : K x z) : LD [.int .i64, .sl] p w K := by
  refine ⟨[.int .i64 x, z.v], rfl, fun i v hv => ?_, hk⟩
  match i, hv with
  | 0, hv => exact hb.cell (i := 0) hv
  | 1, hv => exact hb.cell (i := 1) hv
  | i + 2, hv => simp at hv

theorem one2 (x : Int) (z : Sl) : ∀ v ∈ [Value.int .i64 x, z.v], v.oneCell' = true := by intro v hv; simp at hv; rcases hv with rfl | rfl <;> rfl

/-- The arcs are pairs of labels. -/
theorem WGood.arc {p : WPr} (h : WGood p) {x : List Int} (hx : x ∈ p.arcs) : ∃ a b : Nat, x = [(a : Int), (b : Int)] ∧ a < p.labels.toNat ∧ b < p.labels.toNat := by
  have h1 := h.up.len x hx
  have h2 := h.up.lab x hx
  match x, h1, h2 with
  | [u, v], _, h2 =>
    have h3 := h2 u (by simp)
    have h4 := h2 v (by simp)
    exact ⟨u.toNat, v.toNat, by rw [Int.toNat_of_nonneg h3.1, Int.toNat_of_nonneg h4.1], by omega, by omega⟩
theorem WGood.rel {p : WPr} (h : WGood p) {a b : Nat} (he : arcE p.arcs a b) : a < p.labels.toNat ∧ b < p.labels.toNat := by
  obtain ⟨c, d, e, h1, h2⟩ := h.arc he
  simp only [List.cons.injEq, and_true] at e
  omega

noncomputable def afterL (A : List (List Int)) (n : Nat) : List Int := (List.range n).map fun a => ((maskP n (arcE A a) : Nat) : Int)
theorem afterL_len (A : List (List Int)) (n : Nat) : (afterL A n).length = n := by simp [afterL]
theorem afterL_get {A : List (List Int)} {n a : Nat} (h : a < (afterL A n).length) : (afterL A n)[a] = ((maskP n (arcE A a) : Nat) : Int) := by simp [afterL]
theorem mask_I64 {n : Nat} (hn : n ≤ 12) (P : Nat → Prop) : I64 ((maskP n P : Nat) : Int) := by
  have := maskP_small hn P
  unfold I64; omega
theorem afterL_I64 {A : List (List Int)} {n : Nat} (hn : n ≤ 12) : ∀ x ∈ afterL A n, I64 x := fun x hx => by
  obtain ⟨a, _, rfl⟩ := List.mem_map.1 hx
  exact mask_I64 hn _

theorem after_step {A : List (List Int)} {n i a b : Nat} (hi : i < A.length) (he : A[i] = [(a : Int), (b : Int)]) : afterL (A.take (i + 1)) n = (afterL (A.take i) n).set a ((maskP n (fun c => arcE (A.take i) a c ∨ c = b) : Nat) : Int) := by
  apply List.ext_getElem
  · simp [afterL]
  · intro c h1 h2
    have hc : c < n := by rw [afterL_len] at h1; exact h1
    rw [afterL_get h1, List.getElem_set, List.take_succ_eq_append_getElem hi, he]
    by_cases hac : a = c
    · subst hac
      rw [if_pos rfl]
      congr 1
      refine maskP_congr fun d hd => ?_
      unfold arcE
      rw [List.mem_append, List.mem_singleton]
      simp only [List.cons.injEq, true_and, and_true, Int.natCast_inj]
    · rw [if_neg hac, afterL_get]
      congr 1
      refine maskP_congr fun d hd => ?_
      unfold arcE
      rw [List.mem_append, List.mem_singleton]
      simp only [List.cons.injEq, and_true, Int.natCast_inj]
      exact ⟨fun h => h.resolve_right fun h => hac h.1.symm, .inl⟩

theorem after_ok {w : World} {s : Sl} {p : WPr} (h : RWk w s p) (hg : WGood p) :
    Calls Tryz.prog F.i_WalkProblem_after #[.agg #[.int .i64 p.labels, s.v]] w (Ret [.at .sl] fun (r : Sl) w' => Ext w w' ∧ OwnL w' w.heap.size T.t_int r (afterL p.arcs p.labels.toNat)) := by
  refine C_i_WalkProblem_after ?_
  unfold V_i_WalkProblem_after
  refine NEW_intro fun pp w1 hp1 hs1 hE1 hb1 => LD_bi0 hb1 ?_
  have hl := hg.lab
  obtain ⟨n, hn⟩ : ∃ n : Nat, p.labels = n := ⟨p.labels.toNat, by omega⟩
  have hnt : p.labels.toNat = n := by omega
  rw [hnt, hn]
  refine RUN_make (α := Int) slt_int (d := 0) rfl (by omega) (by unfold maxLen; omega) fun r w2 hE2 hO2 => ?_
  have hE12 := hE1.trans hE2
  have hz1 := hE1.size_le
  have h2 := h.ext hE12
  refine LD_bs1 (hb1.ext hE2) ?_
  rw [h.arcs.len]
  refine ⟨IN p.arcs.length fun i w' => Ext w w' ∧ OwnL w' w1.heap.size T.t_int r (afterL (p.arcs.take i) n), MN p.arcs.length, IN_zero ⟨hE12, ?_⟩, ?_⟩
  · have e : afterL (p.arcs.take 0) n = List.replicate n 0 := by
      apply List.ext_getElem
      · simp [afterL]
      · intro c h1 h2
        rw [afterL_get h1, List.getElem_replicate, maskP_none]
        · rfl
        · intro a _ ha; simp [arcE] at ha
    rw [e]; exact hO2
  rintro _ w3 ⟨i, rfl, hi, hE3, hO3⟩
  intros
  refine cond_dec (fun hlt => ?_) (fun hge => ?_)
  · have hi' : i < p.arcs.length := by omega
    refine (h.arcs.ext hE3).ixL hi' fun q row hrow hc => LD_sl hc ?_
    intro w4 hE4 _
    obtain ⟨a, b, he, ha, hb⟩ := hg.arc (List.getElem_mem hi')
    rw [hnt] at ha hb
    rw [he] at hrow
    have hrow4 := hrow.any.ext hE4
    have hO4 := hO3.ext hE4
    have han : a < (afterL (p.arcs.take i) n).length := by rw [afterL_len]; exact ha
    refine ⟨fun _ => False, ?_⟩
    refine hrow4.ixI (i := 0) (by simp) fun q0 _ hc0 => ⟨not_false, LD_int hc0 ?_⟩
    refine (hO4.rep (afterL_I64 (by omega))).any.ixI (i := a) han fun q1 _ hc1 => ⟨not_false, LD_int hc1 ⟨Chg.refl _ _, ?_⟩⟩
    refine hrow4.ixI (i := 1) (by simp) fun q2 _ hc2 => ⟨Chg.refl _ _, LD_int hc2 ⟨Chg.refl _ _, ?_⟩⟩
    show (0 : Int) ≤ (b : Int) ∧ _
    refine ⟨by omega, Chg.refl _ _, Chg.refl _ _, ?_⟩
    rw [afterL_get han]
    have e3 : bitOr .i64 ((maskP n (arcE (p.arcs.take i) a) : Nat) : Int) (shlI .i64 1 (b : Int)) = ((maskP n (fun c => arcE (p.arcs.take i) a c ∨ c = b) : Nat) : Int) := by
      rw [shl_maskP (by omega) hb, or_maskP (by omega)]
    refine IX_own hO4 han rfl fun q3 hq3 => ?_
    refine ST_own hO4 han hq3 (bitOr .i64 ((maskP n (arcE (p.arcs.take i) a) : Nat) : Int) (shlI .i64 1 (b : Int))) rfl fun w5 hO5 hs5 => ?_
    rw [e3, ← after_step hi' he] at hO5
    exact IN_next h.arcs.le hi' ⟨hs5.ext0 (hE3.trans hE4) fun k hk => by have := (hO3.blk k hk).1; omega, hO5⟩
  · have : i = p.arcs.length := by omega
    subst this
    rw [List.take_length] at hO3
    exact ⟨hE3, hO3.low hz1⟩

/-! ### What walks reach -/

noncomputable def reachL (E : Nat → Nat → Prop) (n a m : Nat) : List Int := (List.range m).map fun k => ((maskP n (fun b => Wk E k a b) : Nat) : Int)
theorem reachL_len (E : Nat → Nat → Prop) (n a m : Nat) : (reachL E n a m).length = m := by simp [reachL]
theorem reachL_get {E : Nat → Nat → Prop} {n a m k : Nat} (h : k < (reachL E n a m).length) : (reachL E n a m)[k] = ((maskP n (fun b => Wk E k a b) : Nat) : Int) := by simp [reachL]
theorem reachL_I64 {E : Nat → Nat → Prop} {n a m : Nat} (hn : n ≤ 12) : ∀ x ∈ reachL E n a m, I64 x := fun x hx => by
  obtain ⟨a, _, rfl⟩ := List.mem_map.1 hx
  exact mask_I64 hn _
theorem reachL_snoc (E : Nat → Nat → Prop) (n a m : Nat) : reachL E n a (m + 1) = reachL E n a m ++ [((maskP n (fun b => Wk E m a b) : Nat) : Int)] := by
  unfold reachL
  rw [List.range_succ, List.map_append, List.map_singleton]

theorem reached_ok {w : World} {s : Sl} {p : WPr} {a m : Nat} (h : RWk w s p) (hg : WGood p) (ha : a < p.labels.toNat) (hm : m ≤ 1000) :
    Calls Tryz.prog F.i_WalkProblem_reached #[.agg #[.int .i64 p.labels, s.v], .int .i64 a, .int .i64 m] w (Ret [.at .sl] fun (r : Sl) w' => Ext w w' ∧ OwnL w' w.heap.size T.t_int r (reachL (arcE p.arcs) p.labels.toNat a (m + 1))) := by
  refine C_i_WalkProblem_reached ?_
  unfold V_i_WalkProblem_reached
  refine NEW_intro fun pp w1 hp1 hs1 hE1 hb1 => LD_is hb1 ?_
  have hl := hg.lab
  generalize hE' : arcE p.arcs = E
  refine call (after_ok (h.ext hE1) hg) ?_
  rintro t w2 ⟨hE2, hO2⟩
  have hrel : ∀ x y, E x y → x < p.labels.toNat ∧ y < p.labels.toNat := fun x y hxy => hg.rel (by rw [hE']; exact hxy)
  generalize hnt : p.labels.toNat = n at *
  have hn12 : n ≤ 12 := by omega
  have hR2 : R w2 t (afterL p.arcs n) := (hO2.rep (afterL_I64 hn12)).any
  have hE12 := hE1.trans hE2
  refine ⟨by omega, ?_⟩
  refine RUN_lit1 (α := Int) slt_int (shlI .i64 1 (a : Int)) rfl (by decide) fun r w3 hE3 hO3 => ?_
  have hz1 := hE1.size_le
  have hz2 := hE2.size_le
  have hz3 := hE3.size_le
  refine ⟨IN2 m fun k (out : Sl) w' => Ext w2 w' ∧ OwnL w' w2.heap.size T.t_int out (reachL E n a (k + 1)), MN2 m, IN2_zero ⟨hE3, ?_⟩, ?_⟩
  · have e : reachL E n a (0 + 1) = [shlI .i64 1 (a : Int)] := by
      rw [reachL_snoc, shl_maskP hn12 ha]
      simp only [reachL, List.range_zero, List.map_nil, List.nil_append, List.cons.injEq, and_true]
      congr 1
      exact maskP_congr fun b _ => ⟨fun h => (show b = a from (show a = b from h).symm), fun h => (show a = b from h.symm)⟩
    rw [e]; exact hO3
  rintro out _ w4 ⟨k, rfl, hk, hE4, hO4⟩
  intros
  refine cond_dec (fun hlt => ?_) (fun hge => ?_)
  · have hk' : k < m := by omega
    have hkl : k < (reachL E n a (k + 1)).length := by rw [reachL_len]; omega
    refine (hO4.rep (reachL_I64 hn12)).any.ixI hkl fun q _ hc => LD_int hc ?_
    rw [reachL_get hkl]
    refine call (labels12_ok (maskP_small hn12 _) w4) ?_
    rintro u w5 ⟨hE5, hO5⟩
    generalize hL : labs (maskP n fun b => Wk E k a b) = L at hO5
    have hL64 : ∀ x ∈ L, I64 x := by subst hL; exact labs_I64 _
    have hLlen : L.length ≤ 12 := by subst hL; exact labs_len _
    have hLm : ∀ x, x ∈ L ↔ ∃ b : Nat, x = b ∧ b < n ∧ Wk E k a b := by subst hL; exact fun x => mem_labsP hn12
    have hRu := (hO5.rep hL64).any
    have hE25 := hE4.trans hE5
    rw [hRu.len]
    refine ⟨IN2 L.length fun j (x : Int) w' => w' = w5 ∧ x = ((maskP n (fun c => ∃ b : Nat, (b : Int) ∈ L.take j ∧ E b c) : Nat) : Int), MN2 L.length, IN2_zero ⟨rfl, ?_⟩, ?_⟩
    · rw [maskP_none (fun c _ => by simp)]; rfl
    rintro _ _ _ ⟨j, rfl, hj, rfl, rfl⟩
    intros
    refine cond_dec (fun hlt2 => ?_) (fun hge2 => ?_)
    · have hj' : j < L.length := by omega
      refine hRu.ixI hj' fun q2 _ hc2 => LD_int hc2 ?_
      obtain ⟨b, hb, hbn, hbw⟩ := (hLm L[j]).1 (List.getElem_mem hj')
      rw [hb]
      have hbl : b < (afterL p.arcs n).length := by rw [afterL_len]; exact hbn
      refine (hR2.ext hE25).ixI hbl fun q3 _ hc3 => LD_int hc3 ?_
      rw [afterL_get hbl, hE', or_maskP hn12]
      refine IN2_next (by omega) hj' ⟨rfl, ?_⟩
      congr 1
      refine maskP_congr fun c _ => ?_
      rw [List.take_succ_eq_append_getElem hj', hb]
      constructor
      · rintro (⟨x, hx, hxe⟩ | hbe)
        · exact ⟨x, List.mem_append_left _ hx, hxe⟩
        · exact ⟨b, by simp, hbe⟩
      · rintro ⟨x, hx, hxe⟩
        rcases List.mem_append.1 hx with hx | hx
        · exact .inl ⟨x, hx, hxe⟩
        · have : x = b := by have := List.mem_singleton.1 hx; omega
          subst this
          exact .inr hxe
    · have : j = L.length := by omega
      subst this
      rw [List.take_length]
      have e4 : maskP n (fun c => ∃ b : Nat, (b : Int) ∈ L ∧ E b c) = maskP n (fun b => Wk E (k + 1) a b) := maskP_congr fun c _ => by
        constructor
        · rintro ⟨b, hb, he⟩
          obtain ⟨b', e, _, hw⟩ := (hLm b).1 hb
          have : b = b' := by omega
          subst this
          exact ⟨b, hw, he⟩
        · rintro ⟨b, hw, he⟩
          exact ⟨b, (hLm b).2 ⟨b, rfl, (hrel b c he).1, hw⟩, he⟩
      rw [e4]
      refine RUN_lit1 (α := Int) slt_int (((maskP n (fun b => Wk E (k + 1) a b) : Nat) : Int)) rfl (by decide) fun y w7 hE7 hO7 => ?_
      have hz4 := hE4.size_le
      have hE57 := hE5.trans hE7
      have hz57 := hE57.size_le
      refine RUN_append (α := Int) slt_int (hO4.ext hE57) (by omega) (hO7.rep (by intro x hx; rw [List.mem_singleton.1 hx]; exact mask_I64 hn12 _)).any (by rw [reachL_len]; simp; omega) (by rw [reachL_len]; simp [maxLen]; omega) fun r' w8 hO8 hs8 => ?_
      rw [← reachL_snoc] at hO8
      exact IN2_next (by omega) hk' ⟨hs8.ext0 (hE4.trans hE57) fun b hb => (hO4.blk b hb).1, hO8⟩
  · have : k = m := by omega
    subst this
    exact ⟨hE12.trans hE4, hO4.low (by omega)⟩

end Go.Proofs.YtfiginahjofdnaaGreat
end

section
/- Walk problems, the program: closure, distances, the period of a component. -/
namespace Go.Proofs.YtfiginahjofdnaaGreat
open Go.GX Go.RowKit
set_option maxRecDepth 100000

/-! ### Closure -/

noncomputable def closeL (E : Nat → Nat → Prop) (n : Nat) : List Int := (List.range n).map fun a => ((maskP n (fun b => ∃ k, Wk E k a b) : Nat) : Int)
noncomputable def closeS (E : Nat → Nat → Prop) (n i j : Nat) : List Int := (List.range n).map fun a => if a < i then ((maskP n (fun b => ∃ k, k ≤ n ∧ Wk E k a b) : Nat) : Int) else if a = i then ((maskP n (fun b => ∃ k, k < j ∧ Wk E k a b) : Nat) : Int) else 0
theorem closeS_len (E : Nat → Nat → Prop) (n i j : Nat) : (closeS E n i j).length = n := by simp [closeS]
theorem closeS_get {E : Nat → Nat → Prop} {n i j a : Nat} (h : a < (closeS E n i j).length) : (closeS E n i j)[a] = if a < i then ((maskP n (fun b => ∃ k, k ≤ n ∧ Wk E k a b) : Nat) : Int) else if a = i then ((maskP n (fun b => ∃ k, k < j ∧ Wk E k a b) : Nat) : Int) else 0 := by simp [closeS]
theorem closeS_I64 {E : Nat → Nat → Prop} {n i j : Nat} (hn : n ≤ 12) : ∀ x ∈ closeS E n i j, I64 x := fun x hx => by
  obtain ⟨a, _, rfl⟩ := List.mem_map.1 hx
  split
  · exact mask_I64 hn _
  · split
    · exact mask_I64 hn _
    · unfold I64; omega
theorem closeS_next (E : Nat → Nat → Prop) (n i : Nat) : closeS E n i (n + 1) = closeS E n (i + 1) 0 := by
  apply List.ext_getElem
  · simp [closeS]
  · intro a h1 h2
    rw [closeS_get h1, closeS_get h2]
    by_cases hlt : a < i
    · rw [if_pos hlt, if_pos (by omega)]
    · rw [if_neg hlt]
      by_cases he : a = i
      · rw [if_pos he, if_pos (by omega)]
        congr 1
        exact maskP_congr fun b _ => ⟨fun ⟨k, hk, hw⟩ => ⟨k, by omega, hw⟩, fun ⟨k, hk, hw⟩ => ⟨k, by omega, hw⟩⟩
      · rw [if_neg he, if_neg (by omega)]
        by_cases he2 : a = i + 1
        · rw [if_pos he2, maskP_none fun b _ ⟨k, hk, _⟩ => by omega]; rfl
        · rw [if_neg he2]
theorem closeS_set {E : Nat → Nat → Prop} {n i j : Nat} : (closeS E n i j).set i ((maskP n (fun b => (∃ k, k < j ∧ Wk E k i b) ∨ Wk E j i b) : Nat) : Int) = closeS E n i (j + 1) := by
  apply List.ext_getElem
  · simp [closeS]
  · intro a h1 h2
    rw [List.getElem_set, closeS_get h2]
    by_cases he : i = a
    · subst he
      rw [if_pos rfl, if_neg (by omega), if_pos rfl]
      congr 1
      refine maskP_congr fun b _ => ⟨?_, ?_⟩
      · rintro (⟨k, hk, hw⟩ | hw)
        · exact ⟨k, by omega, hw⟩
        · exact ⟨j, by omega, hw⟩
      · rintro ⟨k, hk, hw⟩
        by_cases hkj : k = j
        · subst hkj; exact .inr hw
        · exact .inl ⟨k, by omega, hw⟩
    · rw [if_neg he, closeS_get]
      by_cases hlt : a < i
      · rw [if_pos hlt, if_pos hlt]
      · rw [if_neg hlt, if_neg hlt, if_neg (by omega), if_neg (by omega)]
theorem closeS_end {E : Nat → Nat → Prop} {n : Nat} (hE : ∀ x y, E x y → y < n) : closeS E n n 0 = closeL E n := by
  apply List.ext_getElem
  · simp [closeS, closeL]
  · intro a h1 h2
    have ha : a < n := by rw [closeS_len] at h1; exact h1
    rw [closeS_get h1, if_pos ha]
    have e2 : (closeL E n)[a] = ((maskP n (fun b => ∃ k, Wk E k a b) : Nat) : Int) := by simp [closeL]
    rw [e2]
    congr 1
    refine maskP_congr fun b _ => ⟨fun ⟨k, _, hw⟩ => ⟨k, hw⟩, fun ⟨k, hw⟩ => ?_⟩
    rcases Nat.eq_zero_or_pos k with rfl | hk
    · exact ⟨0, by omega, hw⟩
    · obtain ⟨k', _, h3, h4⟩ := hw.short hE hk
      exact ⟨k', h3, h4⟩
theorem closeL_len (E : Nat → Nat → Prop) (n : Nat) : (closeL E n).length = n := by simp [closeL]
theorem closeL_get {E : Nat → Nat → Prop} {n a : Nat} (h : a < (closeL E n).length) : (closeL E n)[a] = ((maskP n (fun b => ∃ k, Wk E k a b) : Nat) : Int) := by simp [closeL]
theorem closeL_I64 {E : Nat → Nat → Prop} {n : Nat} (hn : n ≤ 12) : ∀ x ∈ closeL E n, I64 x := fun x hx => by
  obtain ⟨a, _, rfl⟩ := List.mem_map.1 hx
  exact mask_I64 hn _

theorem closure_ok {w : World} {s : Sl} {p : WPr} (h : RWk w s p) (hg : WGood p) :
    Calls Tryz.prog F.i_WalkProblem_closure #[.agg #[.int .i64 p.labels, s.v]] w (Ret [.at .sl] fun (r : Sl) w' => Ext w w' ∧ OwnL w' w.heap.size T.t_int r (closeL (arcE p.arcs) p.labels.toNat)) := by
  refine C_i_WalkProblem_closure ?_
  unfold V_i_WalkProblem_closure
  refine NEW_intro fun pp w1 hp1 hs1 hE1 hb1 => LD_bi0 hb1 ?_
  have hl := hg.lab
  obtain ⟨n, hn⟩ : ∃ n : Nat, p.labels = n := ⟨p.labels.toNat, by omega⟩
  have hnt : p.labels.toNat = n := by omega
  have hn12 : n ≤ 12 := by omega
  rw [hnt]
  have hrun : ∀ {K : Sl → World → Prop}, RUN Tryz.prog (.at .sl) (Instr.makeSlice T.t_sl_int (.int .i64 (n : Int)) (.int .i64 (n : Int))) w1 K → RUN Tryz.prog (.at .sl) (Instr.makeSlice T.t_sl_int (.int .i64 p.labels) (.int .i64 p.labels)) w1 K := fun hk => by rw [hn]; exact hk
  refine hrun ?_
  refine RUN_make (α := Int) slt_int (d := 0) rfl (by omega) (by unfold maxLen; omega) fun r w2 hE2 hO2 => ?_
  have hE12 := hE1.trans hE2
  have hz1 := hE1.size_le
  have hz2 := hE2.size_le
  have hrl : r.len = n := by have := hO2.1; rw [List.length_replicate] at this; exact this
  rw [hrl]
  have hpB : ∀ {w' : World}, Chg w2 w' (oB r) → Box w' pp T.t_i_WalkProblem [.int .i64 p.labels, s.v] := fun hC => (hb1.ext hE2).chg hC fun hh => by have := (hO2.blk _ hh).1; have := hb1.lt; omega
  have hext : ∀ {w' : World}, Chg w2 w' (oB r) → Ext w w' := fun hC => hC.ext0 hE12 fun k hk => by have := (hO2.blk _ hk).1; omega
  refine ⟨IN n fun i w' => Chg w2 w' (oB r) ∧ OwnL w' w1.heap.size T.t_int r (closeS (arcE p.arcs) n i 0), MN n, IN_zero ⟨Chg.refl _ _, ?_⟩, ?_⟩
  · have e : closeS (arcE p.arcs) n 0 0 = List.replicate n 0 := by
      apply List.ext_getElem
      · simp [closeS]
      · intro a h1 h2
        rw [closeS_get h1, List.getElem_replicate, if_neg (by omega)]
        split
        · rw [maskP_none fun b _ ⟨k, hk, _⟩ => by omega]; rfl
        · rfl
    rw [e]; exact hO2
  rintro _ w3 ⟨i, rfl, hi, hC3, hO3⟩
  intros
  refine cond_dec (fun hlt => ?_) (fun hge => ?_)
  · have hi' : i < n := by omega
    have h3 := h.ext (hext hC3)
    refine LD_is (hpB hC3) (LD_bi0 (hpB hC3) ?_)
    have hcall := reached_ok (a := i) (m := n) h3 hg (by omega) (by omega)
    rw [← hn] at hcall
    refine call hcall ?_
    rintro t w4 ⟨hE4, hO4⟩
    rw [hnt] at hO4
    have hRt := (hO4.rep (reachL_I64 hn12)).any
    have hC4 : Chg w2 w4 (oB r) := hC3.trans (.of_ext hE4)
    have hz4 := hE4.size_le
    rw [hRt.len, reachL_len]
    refine ⟨IN (n + 1) fun j w' => Chg w4 w' (oB r) ∧ OwnL w' w1.heap.size T.t_int r (closeS (arcE p.arcs) n i j), MN (n + 1), IN_zero ⟨Chg.refl _ _, hO3.ext hE4⟩, ?_⟩
    rintro _ w5 ⟨j, rfl, hj, hC5, hO5⟩
    intros
    refine cond_dec (fun hlt2 => ?_) (fun hge2 => ?_)
    · have hj' : j < n + 1 := by omega
      have hRt5 : R w5 t (reachL (arcE p.arcs) n i (n + 1)) := ((hO4.rep (reachL_I64 hn12)).chg hC5 fun b hb _ hD => by
        have h1 := (hO3.blk _ hD).2
        have h2 : w3.heap.size ≤ b := hb
        omega).any
      have hjl : j < (reachL (arcE p.arcs) n i (n + 1)).length := by rw [reachL_len]; exact hj'
      have hil : i < (closeS (arcE p.arcs) n i j).length := by rw [closeS_len]; exact hi'
      refine hRt5.ixI hjl fun q _ hc => LD_int hc ?_
      refine (hO5.rep (closeS_I64 hn12)).any.ixI hil fun q2 _ hc2 => LD_int hc2 ?_
      rw [reachL_get hjl, closeS_get hil, if_neg (by omega), if_pos rfl, or_maskP hn12]
      refine IX_own hO5 hil rfl fun q3 hq3 => ?_
      refine ST_own hO5 hil hq3 (((maskP n (fun b => (∃ k, k < j ∧ Wk (arcE p.arcs) k i b) ∨ Wk (arcE p.arcs) j i b) : Nat) : Int)) rfl fun w6 hO6 hs6 => ?_
      rw [closeS_set] at hO6
      exact IN_next (by omega) hj' ⟨hC5.trans (.of_step hs6 fun k hk => hk), hO6⟩
    · have : j = n + 1 := by omega
      subst this
      rw [closeS_next] at hO5
      exact IN_next (by omega) hi' ⟨hC4.trans hC5, hO5⟩
  · have : i = n := by omega
    subst this
    rw [closeS_end fun x y hxy => by have := (hg.rel hxy).2; omega] at hO3
    exact ⟨hext hC3, hO3.low hz1⟩

end Go.Proofs.YtfiginahjofdnaaGreat
end

section
/- Walk problems, the program: distances, the period of a component. -/
namespace Go.Proofs.YtfiginahjofdnaaGreat
open Go.GX Go.RowKit
set_option maxRecDepth 100000

/-- Lengths of walks from a label, -1 where none leads. -/
structure DistOk (E : Nat → Nat → Prop) (n a : Nat) (D : List Int) : Prop where
  len : D.length = n
  val : ∀ b (h : b < D.length), D[b] = -1 ∨ ∃ k : Nat, k ≤ n ∧ D[b] = k ∧ Wk E k a b
  all : ∀ b (h : b < D.length), (∃ k, Wk E k a b) → 0 ≤ D[b]
  zero : ∀ h : a < D.length, D[a] = 0

/-- What holds when lengths below k are done, and of length k the labels of a list. -/
structure DistS (E : Nat → Nat → Prop) (n a k : Nat) (L : List Int) (D : List Int) : Prop where
  len : D.length = n
  val : ∀ b (h : b < D.length), D[b] = -1 ∨ ∃ j : Nat, j ≤ n ∧ D[b] = j ∧ Wk E j a b
  low : ∀ b (h : b < D.length), ∀ j, j < k → Wk E j a b → 0 ≤ D[b]
  cur : ∀ b (h : b < D.length), (b : Int) ∈ L → 0 ≤ D[b]
  zero : ∀ h : a < D.length, D[a] = -1 ∨ D[a] = 0

theorem DistS.I64 {E : Nat → Nat → Prop} {n a k : Nat} {L D : List Int} (h : DistS E n a k L D) (hn : n ≤ 1000) : ∀ x ∈ D, I64 x := fun x hx => by
  obtain ⟨b, hb, rfl⟩ := List.mem_iff_getElem.1 hx
  rcases h.val b hb with he | ⟨j, hj, he, _⟩
  · rw [he]; unfold GX.I64; omega
  · rw [he]; unfold GX.I64; omega
theorem DistOk.I64 {E : Nat → Nat → Prop} {n a : Nat} {D : List Int} (h : DistOk E n a D) (hn : n ≤ 1000) : ∀ x ∈ D, -1 ≤ x ∧ x ≤ n := fun x hx => by
  obtain ⟨b, hb, rfl⟩ := List.mem_iff_getElem.1 hx
  rcases h.val b hb with he | ⟨j, hj, he, _⟩
  · rw [he]; omega
  · rw [he]; omega

theorem distancesIn_ok {w : World} {s : Sl} {p : WPr} {a : Nat} (h : RWk w s p) (hg : WGood p) (ha : a < p.labels.toNat) :
    Calls Tryz.prog F.i_WalkProblem_distancesIn #[.agg #[.int .i64 p.labels, s.v], .int .i64 a] w (Ret [.at .sl] fun (r : Sl) w' => Ext w w' ∧ ∃ D, OwnL w' w.heap.size T.t_int r D ∧ DistOk (arcE p.arcs) p.labels.toNat a D) := by
  refine C_i_WalkProblem_distancesIn ?_
  unfold V_i_WalkProblem_distancesIn
  refine NEW_intro fun pp w1 hp1 hs1 hE1 hb1 => ?_
  have hl := hg.lab
  obtain ⟨n, hn⟩ : ∃ n : Nat, p.labels = n := ⟨p.labels.toNat, by omega⟩
  have hnt : p.labels.toNat = n := by omega
  have hn12 : n ≤ 12 := by omega
  have hrel : ∀ x y, arcE p.arcs x y → y < n := fun x y hxy => by have := (hg.rel hxy).2; omega
  rw [hnt] at ha ⊢
  refine RUN_lit1 (α := Int) slt_int (-1) rfl (by decide) fun y w2 hE2 hO2 => LD_bi0 (hb1.ext hE2) ?_
  have hcallR := repeat_ok (n := n) (hO2.rep (by intro x hx; rw [List.mem_singleton.1 hx]; show I64 _; unfold GX.I64; omega)).any (show I64 (-1) by unfold GX.I64; omega) (by omega)
  rw [← hn] at hcallR
  refine call hcallR ?_
  rintro r w3 ⟨hE3, hO3⟩
  have hE13 := hE2.trans hE3
  have hE03 := hE1.trans hE13
  have hb3 := hb1.ext hE13
  have hz1 := hE1.size_le
  have hz2 := hE2.size_le
  refine LD_is hb3 (LD_bi0 hb3 ?_)
  have hcall := reached_ok (a := a) (m := n) (h.ext hE03) hg (by omega) (by omega)
  rw [← hn] at hcall
  refine call hcall ?_
  rintro t w4 ⟨hE4, hO4⟩
  rw [hnt] at hO4
  have hz3 := hE3.size_le
  have hz4 := hE4.size_le
  have hE04 := hE03.trans hE4
  have hRt := (hO4.rep (reachL_I64 hn12)).any
  rw [hRt.len, reachL_len]
  have hext : ∀ {w' : World}, Chg w4 w' (oB r) → Ext w w' := fun hC => hC.ext0 hE04 fun k hk => by have := (hO3.blk _ hk).1; omega
  refine ⟨IN (n + 1) fun k w' => Chg w4 w' (oB r) ∧ ∃ D, OwnL w' w2.heap.size T.t_int r D ∧ DistS (arcE p.arcs) n a k [] D ∧ (∀ ha : a < D.length, 1 ≤ k → D[a] = 0), MN (n + 1), IN_zero ⟨Chg.refl _ _, List.replicate n (-1), hO3.ext hE4, ⟨by simp, fun b hb => .inl (by simp), fun b hb j hj => by omega, fun b hb hm => by simp at hm, fun h => .inl (by simp)⟩, fun _ h1 => by omega⟩, ?_⟩
  rintro _ w5 ⟨k, rfl, hk, hC5, D, hO5, hD, hDz⟩
  intros
  refine cond_dec (fun hlt => ?_) (fun hge => ?_)
  · have hk' : k < n + 1 := by omega
    have hRt5 : R w5 t (reachL (arcE p.arcs) n a (n + 1)) := ((hO4.rep (reachL_I64 hn12)).chg hC5 fun b hb _ hDD => by
        have h1 := (hO3.blk _ hDD).2
        have h2 : w3.heap.size ≤ b := hb
        omega).any
    have hkl : k < (reachL (arcE p.arcs) n a (n + 1)).length := by rw [reachL_len]; exact hk'
    refine hRt5.ixI hkl fun q _ hcq => LD_int hcq ?_
    rw [reachL_get hkl]
    refine call (labels12_ok (maskP_small hn12 _) w5) ?_
    rintro u w6 ⟨hE6, hO6⟩
    generalize hL : labs (maskP n fun b => Wk (arcE p.arcs) k a b) = L at hO6
    have hL64 : ∀ x ∈ L, GX.I64 x := by subst hL; exact labs_I64 _
    have hLlen : L.length ≤ 12 := by subst hL; exact labs_len _
    have hLm : ∀ x, x ∈ L ↔ ∃ b : Nat, x = b ∧ b < n ∧ Wk (arcE p.arcs) k a b := by subst hL; exact fun x => mem_labsP hn12
    have hLs : L.Pairwise (· < ·) := by subst hL; exact labs_sorted _
    rw [(hO6.rep hL64).any.len]
    have hz5 := hC5.size
    refine ⟨IN L.length fun j w' => Chg w6 w' (oB r) ∧ ∃ D, OwnL w' w2.heap.size T.t_int r D ∧ DistS (arcE p.arcs) n a k (L.take j) D ∧ (∀ ha : a < D.length, 1 ≤ k → D[a] = 0), MN L.length, IN_zero ⟨Chg.refl _ _, D, hO5.ext hE6, by simpa using hD, hDz⟩, ?_⟩
    rintro _ w7 ⟨j, rfl, hj, hC7, D7, hO7, hD7, hDz7⟩
    intros
    refine cond_dec (fun hlt2 => ?_) (fun hge2 => ?_)
    · have hj' : j < L.length := by omega
      have hRu : R w7 u L := ((hO6.rep hL64).chg hC7 fun b hb _ hDD => by
        have h1 := (hO3.blk _ hDD).2
        have h2 : w5.heap.size ≤ b := hb
        omega).any
      refine hRu.ixI hj' fun q2 _ hc2 => LD_int hc2 ?_
      obtain ⟨b, hb, hbn, hbw⟩ := (hLm L[j]).1 (List.getElem_mem hj')
      rw [hb]
      have hbl : b < D7.length := by rw [hD7.len]; exact hbn
      have htake : L.take (j + 1) = L.take j ++ [(b : Int)] := by rw [List.take_succ_eq_append_getElem hj', hb]
      have hR7 := (hO7.rep (hD7.I64 (by omega))).any
      refine hR7.ixI hbl fun q3 _ hc3 => LD_int hc3 ?_
      refine cond_dec (fun hneg => ?_) (fun hnn => ?_)
      · refine IX_own hO7 hbl rfl fun q4 hq4 => ?_
        refine ST_own hO7 hbl hq4 (k : Int) rfl fun w8 hO8 hs8 => ?_
        refine IN_next (by omega) hj' ⟨hC7.trans (.of_step hs8 fun k hk => hk), D7.set b k, hO8, ⟨by rw [List.length_set]; exact hD7.len, fun c hc => ?_, fun c hc i hi hw => ?_, fun c hc hm => ?_, fun hc => ?_⟩, fun hc h1 => ?_⟩
        · rw [List.getElem_set]
          by_cases he : b = c
          · subst he; rw [if_pos rfl]; exact .inr ⟨k, by omega, rfl, hbw⟩
          · rw [if_neg he]; exact hD7.val c (by rw [List.length_set] at hc; exact hc)
        · rw [List.getElem_set]
          by_cases he : b = c
          · subst he; rw [if_pos rfl]; omega
          · rw [if_neg he]; exact hD7.low c (by rw [List.length_set] at hc; exact hc) i hi hw
        · rw [List.getElem_set]
          by_cases he : b = c
          · subst he; rw [if_pos rfl]; omega
          · rw [if_neg he]
            rw [htake] at hm
            refine hD7.cur c (by rw [List.length_set] at hc; exact hc) ?_
            rcases List.mem_append.1 hm with hm | hm
            · exact hm
            · exact absurd (by have := List.mem_singleton.1 hm; omega) he
        · rw [List.getElem_set]
          by_cases he : b = a
          · rw [if_pos he]
            subst he
            by_cases hk0 : k = 0
            · subst hk0; exact .inr rfl
            · have := hD7.low b hbl 0 (by omega) rfl
              omega
          · rw [if_neg he]; exact hD7.zero (by rw [List.length_set] at hc; exact hc)
        · rw [List.getElem_set]
          by_cases he : b = a
          · subst he
            have := hD7.low b hbl 0 (by omega) rfl
            omega
          · rw [if_neg he]; exact hDz7 (by rw [List.length_set] at hc; exact hc) h1
      · refine IN_next (by omega) hj' ⟨hC7, D7, hO7, ⟨hD7.len, hD7.val, hD7.low, fun c hc hm => ?_, hD7.zero⟩, hDz7⟩
        rw [htake] at hm
        rcases List.mem_append.1 hm with hm | hm
        · exact hD7.cur c hc hm
        · have : c = b := by have := List.mem_singleton.1 hm; omega
          subst this
          omega
    · have : j = L.length := by omega
      subst this
      rw [List.take_length] at hD7
      refine IN_next (by omega) hk' ⟨(hC5.trans (.of_ext hE6)).trans hC7, D7, hO7, ⟨hD7.len, hD7.val, fun c hc i hi hw => ?_, fun c hc hm => by simp at hm, hD7.zero⟩, fun hc _ => ?_⟩
      · by_cases hik : i = k
        · subst hik
          exact hD7.cur c hc ((hLm c).2 ⟨c, rfl, by rw [hD7.len] at hc; exact hc, hw⟩)
        · exact hD7.low c hc i (by omega) hw
      · by_cases hk1 : 1 ≤ k
        · exact hDz7 hc hk1
        · have : k = 0 := by omega
          subst this
          have h1 := hD7.cur a hc ((hLm a).2 ⟨a, rfl, ha, rfl⟩)
          rcases hD7.zero hc with h2 | h2
          · omega
          · exact h2
  · have : k = n + 1 := by omega
    subst this
    refine ⟨hext hC5, D, hO5.low (by omega), hD.len, hD.val, fun b hb hex => ?_, fun hh => hDz hh (by omega)⟩
    obtain ⟨j, hw⟩ := hex
    rcases Nat.eq_zero_or_pos j with rfl | hj
    · exact hD.low b hb 0 (by omega) hw
    · obtain ⟨j', _, h3, h4⟩ := hw.short hrel hj
      exact hD.low b hb j' (by omega) h4

/-! ### The greatest common divisor -/

theorem gcd_list {w : World} {s : Sl} {l : List Nat} (h : R w s (l.map fun x : Nat => (x : Int))) :
    Calls Tryz.prog F.i_gcd #[s.v] w (Ret [.at (.int .i64)] fun (x : Int) w' => Ext w w' ∧ x = ((l.foldl Nat.gcd 0 : Nat) : Int)) := by
  refine C_i_gcd ?_
  unfold V_i_gcd
  have hle : l.length ≤ 9223372036854775807 := by have := h.le; rwa [List.length_map] at this
  rw [h.len, List.length_map]
  refine ⟨IN2 l.length fun i (d : Int) w' => Ext w w' ∧ d = (((l.take i).foldl Nat.gcd 0 : Nat) : Int), MN2 l.length, IN2_zero ⟨Ext.refl _, rfl⟩, ?_⟩
  rintro _ _ w1 ⟨i, rfl, hi, hE1, rfl⟩
  intros
  refine cond_dec (fun hlt => ?_) (fun hge => ?_)
  · have hi' : i < l.length := by omega
    have hil : i < (l.map fun x : Nat => (x : Int)).length := by rw [List.length_map]; exact hi'
    refine (h.ext hE1).ixI hil fun q _ hc => LD_int hc ?_
    rw [List.getElem_map]
    have hf : (l.take (i + 1)).foldl Nat.gcd 0 = Nat.gcd ((l.take i).foldl Nat.gcd 0) l[i] := by
      rw [List.take_succ_eq_append_getElem hi', List.foldl_append]; rfl
    generalize hG : (l.take (i + 1)).foldl Nat.gcd 0 = G at hf
    refine ⟨fun (d n : Int) w' => Ext w1 w' ∧ ∃ u v : Nat, d = u ∧ n = v ∧ Nat.gcd u v = G, fun _ n _ => n.toNat, ⟨Ext.refl _, _, _, rfl, rfl, hf.symm⟩, ?_⟩
    rintro _ _ w2 ⟨hE2, u, v, rfl, rfl, hG2⟩
    intros
    refine cond_ne (fun hne => ⟨hne, fun w3 hE3 => ?_⟩) (fun heq => ?_)
    · have hv : 0 < v := by omega
      have e : Int.tmod (u : Int) (v : Int) = ((u % v : Nat) : Int) := by rw [Int.tmod_eq_emod_of_nonneg (by omega)]; rfl
      rw [e]
      have hm := Nat.mod_lt u hv
      refine ⟨⟨hE2.trans hE3, v, u % v, rfl, rfl, ?_⟩, by simp only [Int.toNat_natCast]; exact hm⟩
      rw [← hG2, Nat.gcd_comm u v, Nat.gcd_rec v u, Nat.gcd_comm]
    · have hv : v = 0 := by have : (v : Int) = 0 := heq; omega
      subst hv
      rw [Nat.gcd_zero_right] at hG2
      subst hG2
      exact IN2_next hle hi' ⟨hE1.trans hE2, by rw [hG]⟩
  · have : i = l.length := by omega
    subst this
    exact ⟨hE1, by rw [List.take_length]⟩

theorem gcd_ok {w : World} {s : Sl} {a b : Nat} (h : R w s [(a : Int), (b : Int)]) :
    Calls Tryz.prog F.i_gcd #[s.v] w (Ret [.at (.int .i64)] fun (x : Int) w' => Ext w w' ∧ x = (Nat.gcd a b : Nat)) := by
  refine call (gcd_list (l := [a, b]) h) ?_
  rintro x w' ⟨hE, rfl⟩
  exact ⟨hE, by simp⟩

/-! ### The period -/

theorem DistOk.pot {E : Nat → Nat → Prop} {n a : Nat} {D : List Int} (h : DistOk E n a D) (ha : a < n) (hE : ∀ x y, E x y → y < n) : D.getD a 0 = 0 ∧ ∀ b, Comp E a b → ∃ k : Nat, D.getD b 0 = k ∧ Wk E k a b := by
  have hal : a < D.length := by rw [h.len]; exact ha
  refine ⟨by rw [List.getD_eq_getElem?_getD, List.getElem?_eq_getElem hal, Option.getD_some]; exact h.zero hal, fun b hb => ?_⟩
  have hbn : b < n := by
    obtain ⟨k, hw⟩ := hb.1
    rcases Nat.eq_zero_or_pos k with rfl | hk
    · cases hw; exact ha
    · exact hw.lt hE hk
  have hbl : b < D.length := by rw [h.len]; exact hbn
  rw [List.getD_eq_getElem?_getD, List.getElem?_eq_getElem hbl, Option.getD_some]
  rcases h.val b hbl with he | ⟨k, _, he, hw⟩
  · have := h.all b hbl hb.1; omega
  · exact ⟨k, he, hw⟩

/-- A number whose divisors are those of some steps, and one step more. -/
theorem div_step {S : Nat → Nat → Prop} {P u v : Nat} {d : Nat → Int} (hP : ∀ g : Nat, g ∣ P ↔ ∀ x y, S x y → (g : Int) ∣ d x + 1 - d y) : ∀ g : Nat, g ∣ Nat.gcd P (d u + 1 - d v).natAbs ↔ ∀ x y, (S x y ∨ (x = u ∧ y = v)) → (g : Int) ∣ d x + 1 - d y := fun g => by
  rw [Nat.dvd_gcd_iff, hP g]
  constructor
  · rintro ⟨h1, h2⟩ x y (h | ⟨rfl, rfl⟩)
    · exact h1 x y h
    · exact Int.natAbs_dvd_natAbs.1 (by rw [Int.natAbs_natCast]; exact h2)
  · intro h
    exact ⟨fun x y hs => h x y (.inl hs), by have := Int.natAbs_dvd_natAbs.2 (h u v (.inr ⟨rfl, rfl⟩)); rwa [Int.natAbs_natCast] at this⟩

theorem gcd_bound {P x N : Nat} (hP : P ≤ N) (hx : x ≤ N) : Nat.gcd P x ≤ N := by
  rcases Nat.eq_zero_or_pos P with rfl | h
  · rw [Nat.gcd_zero_left]; exact hx
  · exact Nat.le_trans (Nat.gcd_le_left x h) hP

theorem abs_max {x : Int} : (if x < 0 - x then 0 - x else x) = (x.natAbs : Int) := by split <;> omega

theorem periodOf_ok {w : World} {s t : Sl} {p : WPr} {r : Nat} {C : List Int} (h : RWk w s p) (hg : WGood p) (hC : R w t C) (h0 : 0 < C.length) (hr : C[0] = (r : Int)) (hrn : r < p.labels.toNat) (hm : ∀ b : Nat, (b : Int) ∈ C ↔ b < p.labels.toNat ∧ Comp (arcE p.arcs) r b) :
    Calls Tryz.prog F.i_WalkProblem_periodOf #[.agg #[.int .i64 p.labels, s.v], t.v] w (Ret [.at (.int .i64)] fun (x : Int) w' => Ext w w' ∧ ∃ P : Nat, x = P ∧ P ≤ 100 ∧ ∀ g : Nat, g ∣ P ↔ PerDiv (arcE p.arcs) r g) := by
  refine C_i_WalkProblem_periodOf ?_
  unfold V_i_WalkProblem_periodOf
  refine NEW_intro fun pp w1 hp1 hs1 hE1 hb1 => ?_
  intro w2 hE2 _
  have hE12 := hE1.trans hE2
  have hl := hg.lab
  have hrel : ∀ x y, arcE p.arcs x y → y < p.labels.toNat := fun x y hxy => (hg.rel hxy).2
  generalize hEe : arcE p.arcs = E at *
  have hb2 := hb1.ext hE2
  refine LD_is hb2 ⟨Ext.refl _, ?_⟩
  refine (hC.ext hE12).ixI (i := 0) h0 fun q _ hc => ⟨Ext.refl _, LD_int hc ⟨Ext.refl _, ?_⟩⟩
  rw [hr]
  refine call (distancesIn_ok (h.ext hE12) hg hrn) ?_
  rintro u w3 ⟨hE3, D, hO3, hD⟩
  rw [hEe] at hD
  obtain ⟨hz, hpot⟩ := hD.pot hrn hrel
  have hD64 := hD.I64 (by omega)
  have hE13 := hE12.trans hE3
  have hRD : R w3 u D := (hO3.rep fun x hx => by have := hD64 x hx; show I64 x; unfold GX.I64; omega).any
  refine LD_bs1 (hb2.ext hE3) ?_
  rw [h.arcs.len]
  have hdl := hD.len
  let d : Nat → Int := fun b => D.getD b 0
  have hdb : ∀ b, b < D.length → -1 ≤ d b ∧ d b ≤ p.labels.toNat ∧ D[b]? = some (d b) := fun b hb => by
    have e : d b = D[b] := by show D.getD b 0 = _; rw [List.getD_eq_getElem?_getD, List.getElem?_eq_getElem hb]; rfl
    rw [e]
    have := hD64 _ (List.getElem_mem hb)
    exact ⟨this.1, this.2, List.getElem?_eq_getElem hb⟩
  refine ⟨IN2 p.arcs.length fun i (x : Int) w' => Ext w3 w' ∧ ∃ P : Nat, x = P ∧ P ≤ 100 ∧ ∀ g : Nat, g ∣ P ↔ ∀ a b, (arcE (p.arcs.take i) a b ∧ Comp E r a ∧ Comp E r b) → (g : Int) ∣ d a + 1 - d b, MN2 p.arcs.length, IN2_zero ⟨Ext.refl _, 0, rfl, by omega, fun g => by simp [arcE]⟩, ?_⟩
  rintro _ _ w4 ⟨i, rfl, hi, hE4, P, rfl, hP100, hP⟩
  intros
  refine cond_dec (fun hlt => ?_) (fun hge => ?_)
  · have hi' : i < p.arcs.length := by omega
    refine (h.arcs.ext (hE13.trans hE4)).ixL hi' fun q2 row hrow hcr => LD_sl hcr ?_
    obtain ⟨a, b, he, ha, hb⟩ := hg.arc (List.getElem_mem hi')
    rw [he] at hrow
    have hCx := hC.ext (hE13.trans hE4)
    have hstep : ∀ x y, arcE (p.arcs.take (i + 1)) x y ↔ arcE (p.arcs.take i) x y ∨ (x = a ∧ y = b) := fun x y => by
      unfold arcE
      rw [List.take_succ_eq_append_getElem hi', he, List.mem_append, List.mem_singleton]
      simp only [List.cons.injEq, and_true, Int.natCast_inj]
    refine hrow.any.ixI (i := 0) (by simp) fun q3 _ hc3 => LD_int hc3 ?_
    refine call (contains_ok hCx _) ?_
    rintro _ _ ⟨rfl, rfl⟩
    have skip : ¬ (Comp E r a ∧ Comp E r b) → IN2 p.arcs.length (fun i (x : Int) w' => Ext w3 w' ∧ ∃ P : Nat, x = P ∧ P ≤ 100 ∧ ∀ g : Nat, g ∣ P ↔ ∀ a b, (arcE (p.arcs.take i) a b ∧ Comp E r a ∧ Comp E r b) → (g : Int) ∣ d a + 1 - d b) (P : Int) (IntKind.i64.wrap ((i : Int) + 1)) w4 ∧ MN2 p.arcs.length (P : Int) (IntKind.i64.wrap ((i : Int) + 1)) w4 < MN2 p.arcs.length (P : Int) (i : Int) w4 := fun hno =>
      IN2_next h.arcs.le hi' ⟨hE4, P, rfl, hP100, fun g => (hP g).trans ⟨fun hh x y ⟨h1, h2, h3⟩ => by
        rcases (hstep x y).1 h1 with h4 | ⟨rfl, rfl⟩
        · exact hh x y ⟨h4, h2, h3⟩
        · exact absurd ⟨h2, h3⟩ hno, fun hh x y ⟨h1, h2⟩ => hh x y ⟨(hstep x y).2 (.inl h1), h2⟩⟩⟩
    have hmem : ∀ c : Nat, c < p.labels.toNat → (C.contains (c : Int) = true ↔ Comp E r c) := fun c hcn => by
      rw [List.contains_iff_mem, hm c]
      exact ⟨fun hh => hh.2, fun hh => ⟨hcn, hh⟩⟩
    refine cond_b (fun ht => ?_) (fun hf => skip fun hh => ?_)
    · refine hrow.any.ixI (i := 1) (by simp) fun q4 _ hc4 => LD_int hc4 ?_
      refine call (contains_ok hCx _) ?_
      rintro _ _ ⟨rfl, rfl⟩
      refine cond_b (fun ht2 => ?_) (fun hf => skip fun hh => ?_)
      · have hca := (hmem a ha).1 ht
        have hcb := (hmem b hb).1 ht2
        refine hrow.any.ixI (i := 0) (by simp) fun q5 _ hc5 => LD_int hc5 ?_
        have hal : a < D.length := by rw [hdl]; exact ha
        have hbl : b < D.length := by rw [hdl]; exact hb
        have hRD4 := hRD.ext hE4
        refine hRD4.ixI (i := a) hal fun q6 _ hc6 => LD_int hc6 ?_
        refine hrow.any.ixI (i := 1) (by simp) fun q7 _ hc7 => LD_int hc7 ?_
        refine hRD4.ixI (i := b) hbl fun q8 _ hc8 => LD_int hc8 ?_
        intro w7 hE7
        obtain ⟨a1, a2, a3⟩ := hdb a hal
        obtain ⟨b1, b2, b3⟩ := hdb b hbl
        have ea : D[a] = d a := by rw [List.getElem?_eq_getElem hal] at a3; exact Option.some.inj a3
        have eb : D[b] = d b := by rw [List.getElem?_eq_getElem hbl] at b3; exact Option.some.inj b3
        rw [ea, eb, wrap_of (n := d a + 1) (by omega) (by omega), wrap_of (n := d a + 1 - d b) (by omega) (by omega), wrap_of (n := 0 - (d a + 1 - d b)) (by omega) (by omega)]
        refine RUN_max ?_
        rw [abs_max]
        have hx100 : (d a + 1 - d b).natAbs ≤ 100 := by omega
        refine RUN_lits slt_int [(P : Int), ((d a + 1 - d b).natAbs : Int)] (by simp) (by simp) rfl rfl fun y w9 hE9 hO9 => ?_
        refine call (gcd_ok (hO9.rep (by intro x hx; simp at hx; show I64 x; unfold GX.I64; rcases hx with rfl | rfl <;> omega)).any) ?_
        rintro _ w10 ⟨hE10, rfl⟩
        refine IN2_next h.arcs.le hi' ⟨((hE4.trans hE7).trans hE9).trans hE10, _, rfl, gcd_bound hP100 hx100, fun g => ?_⟩
        rw [div_step hP g]
        constructor
        · intro hh x y ⟨h1, h2, h3⟩
          rcases (hstep x y).1 h1 with h4 | ⟨rfl, rfl⟩
          · exact hh x y (.inl ⟨h4, h2, h3⟩)
          · exact hh x y (.inr ⟨rfl, rfl⟩)
        · rintro hh x y (⟨h1, h2⟩ | ⟨rfl, rfl⟩)
          · exact hh x y ⟨(hstep x y).2 (.inl h1), h2⟩
          · exact hh x y ⟨(hstep x y).2 (.inr ⟨rfl, rfl⟩), hca, hcb⟩
      · have := (hmem b hb).2 hh.2
        exact absurd (this.symm.trans hf) (by simp)
    · have := (hmem a ha).2 hh.1
      exact absurd (this.symm.trans hf) (by simp)
  · have : i = p.arcs.length := by omega
    subst this
    refine ⟨hE13.trans hE4, P, rfl, hP100, fun g => ?_⟩
    rw [hP g, List.take_length, hEe, ← pot_div (d := d) hz hpot g]
    exact ⟨fun hh x y h2 h3 h1 => hh x y ⟨h1, h2, h3⟩, fun hh x y ⟨h1, h2, h3⟩ => hh x y h2 h3 h1⟩

end Go.Proofs.YtfiginahjofdnaaGreat
end

section
/- A growing list of lists (of any kind) whose parts are only read: the array is the call's own, its parts lie elsewhere. -/
namespace Go.GX
open Go.RowKit
set_option maxRecDepth 100000

/-- Arrays of different kinds lie apart. -/
theorem own_apart {α β : Type} [Flat α] [Flat β] {w : World} {base base' : Nat} {e e' : TypeId} {s s' : Sl} {l : List α} {l' : List β} (h : OwnL w base e s l) (h' : OwnL w base' e' s' l') (hne : e ≠ e') : ∀ b, s.v.ownBlock = some b → ¬ s'.v.ownBlock = some b := fun b hb hb' => by
  obtain ⟨c1, e1⟩ := h.type hb
  obtain ⟨c2, e2⟩ := h'.type hb'
  rw [e1] at e2
  exact hne (Obj.cells.inj (Option.some.inj e2)).2.1

structure RowsR {α : Type} [RepP α] (base : Nat) (e : TypeId) (w : World) (s : Sl) (L : List (List α)) : Prop where
  ex : ∃ ss : List Sl, OwnL w base e s ss ∧ ss.length = L.length ∧ ∀ j (h1 : j < ss.length) (h2 : j < L.length), SlR (fun b => s.v.ownBlock ≠ some b) w ss[j] L[j]

section
variable {α : Type} [RepP α] {base : Nat} {e : TypeId} {w w' : World} {s : Sl} {L : List (List α)}

theorem RowsR.rep (h : RowsR base e w s L) : R w s L := by
  obtain ⟨ss, hO, hl, hr⟩ := h.ex
  exact OwnL.rows (D := fun _ => True) hO hl (fun j h1 h2 => (hr j h1 h2).any) fun _ _ => trivial
theorem RowsR.ext (h : RowsR base e w s L) (hE : Ext w w') : RowsR base e w' s L := by
  obtain ⟨ss, hO, hl, hr⟩ := h.ex
  exact ⟨ss, hO.ext hE, hl, fun j h1 h2 => (hr j h1 h2).ext hE⟩
theorem RowsR.nil (base : Nat) (e : TypeId) (w : World) : RowsR base e w ⟨none, 0, 0⟩ ([] : List (List α)) := ⟨[], OwnL.nil _ _ _, rfl, fun j h1 => by simp at h1⟩
theorem RowsR.blk (h : RowsR base e w s L) {k : Nat} (hk : s.v.ownBlock = some k) : base ≤ k ∧ k < w.heap.size := by
  obtain ⟨ss, hO, _⟩ := h.ex
  exact hO.blk k hk
theorem RowsR.low (h : RowsR base e w s L) {b : Nat} (hb : b ≤ base) : RowsR b e w s L := by
  obtain ⟨ss, hO, hl, hr⟩ := h.ex
  exact ⟨ss, hO.low hb, hl, hr⟩
/-- A list of one, its part made before the array. -/
theorem RowsR.one {b1 : Nat} {w0 : World} {r : Sl} {l : List α} (hE : Ext w0 w) (hO : OwnL w b1 e s [r]) (hb1 : w0.heap.size ≤ b1) (hb : base ≤ b1) (hR : R w0 r l) : RowsR base e w s [l] :=
  ⟨_, hO.low hb, rfl, fun j h1 h2 => by
    have hj : j = 0 := by simp at h2; omega
    subst hj
    have hk : ∀ b, True → b < w0.heap.size → s.v.ownBlock ≠ some b := fun b _ hlt he => by have := (hO.blk b he).1; omega
    exact (hR.weak hk RepP.pos).ext hE⟩

/-- append(s, r): r was made after w0, or lies below the array. -/
theorem RUN_append_R {P : Program} {t : TypeId} {bytes : Nat} {z : Value} (hT : SlT P t e 1 bytes z) {b1 : Nat} {y r : Sl} {l : List α} (h : RowsR base e w s L) (hbase : base ≤ w.heap.size) (hE : Ext w w') (hr : SlR (fun b => s.v.ownBlock ≠ some b) w' r l)
    (hy : OwnL w' b1 e y [r]) (hlen : (L.length + 1) * bytes ≤ 140737488355328) (hmax : L.length + 1 ≤ maxLen) {K : Sl → World → Prop}
    (hk : ∀ s' w2, RowsR base e w2 s' (L ++ [l]) → Step w' w2 s.v.ownBlock → K s' w2) : RUN P (.at .sl) (bsem .append #[t, t] t #[s.v, y.v]) w' K := by
  obtain ⟨ss, hO, hl, hss⟩ := h.ex
  have hO1 := hO.ext hE
  have hsz := hE.size_le
  refine RUN_appendF (α := Sl) hT hO1 (by omega) (hy.rep fun _ _ => trivial) (by simpa [hl] using hlen) (by simpa [hl] using hmax) fun s' w2 hO2 hs2 hN => hk s' w2 ⟨_, hO2, by simp [hl], fun j h1 h2 => ?_⟩ hs2
  have hw : ∀ b, s.v.ownBlock ≠ some b → b < w'.heap.size → s'.v.ownBlock ≠ some b := fun b hb hlt he => by
    rcases hN with hN | hN
    · exact hb (hN ▸ he)
    · have := hN b he; omega
  have main : ∀ {r : Sl} {q : List α}, SlR (fun b => s.v.ownBlock ≠ some b) w' r q → SlR (fun b => s'.v.ownBlock ≠ some b) w2 r q := fun {r q} hR =>
    (SlR.stepD (hR.weak (D' := fun b => s.v.ownBlock ≠ some b ∧ s'.v.ownBlock ≠ some b) (fun b h3 h4 => ⟨h3, hw b h3 h4⟩) RepP.pos) hs2 (fun b hb => hb.1)).weak (fun b hb _ => hb.2) RepP.pos
  by_cases hj : j < ss.length
  · have hjl : j < L.length := by omega
    rw [List.getElem_append_left hj, List.getElem_append_left hjl]
    exact main ((hss j hj hjl).ext hE)
  · have hjl : j = L.length := by simp at h2; omega
    subst hjl
    have e1 : (ss ++ [r])[L.length]'h1 = r := by
      rw [List.getElem_append_right (by omega)]; simp [hl]
    have e2 : (L ++ [l])[L.length]'h2 = l := by
      rw [List.getElem_append_right (by omega)]; simp
    rw [e1, e2]
    exact main hr

/-- What is made after w0 does not lie in an array that was there. -/
theorem RowsR.new (h : RowsR base e w s L) {w1 : World} {r : Sl} {β : Type} [RepP β] {l : List β} (hr : SlR (fun b => w.heap.size ≤ b) w1 r l) : SlR (fun b => s.v.ownBlock ≠ some b) w1 r l :=
  hr.weak (fun b hb _ he => by have := (h.blk he).2; omega) RepP.pos

/-- The same, the parts lying off some more blocks. -/
structure RowsX (X : Nat → Prop) (base : Nat) (e : TypeId) (w : World) (s : Sl) (L : List (List α)) : Prop where
  ex : ∃ ss : List Sl, OwnL w base e s ss ∧ ss.length = L.length ∧ ∀ j (h1 : j < ss.length) (h2 : j < L.length), SlR (fun b => s.v.ownBlock ≠ some b ∧ ¬ X b) w ss[j] L[j]

theorem RowsX.rep {X : Nat → Prop} (h : RowsX X base e w s L) : R w s L := by
  obtain ⟨ss, hO, hl, hr⟩ := h.ex
  exact OwnL.rows (D := fun _ => True) hO hl (fun j h1 h2 => (hr j h1 h2).any) fun _ _ => trivial
theorem RowsX.ext {X : Nat → Prop} (h : RowsX X base e w s L) (hE : Ext w w') : RowsX X base e w' s L := by
  obtain ⟨ss, hO, hl, hr⟩ := h.ex
  exact ⟨ss, hO.ext hE, hl, fun j h1 h2 => (hr j h1 h2).ext hE⟩
theorem RowsX.nil (X : Nat → Prop) (base : Nat) (e : TypeId) (w : World) : RowsX X base e w ⟨none, 0, 0⟩ ([] : List (List α)) := ⟨[], OwnL.nil _ _ _, rfl, fun j h1 => by simp at h1⟩
theorem RowsX.blk {X : Nat → Prop} (h : RowsX X base e w s L) {k : Nat} (hk : s.v.ownBlock = some k) : base ≤ k ∧ k < w.heap.size := by
  obtain ⟨ss, hO, _⟩ := h.ex
  exact hO.blk k hk
/-- Something outside the array changes. -/
theorem RowsX.chg {X X' : Nat → Prop} (h : RowsX X base e w s L) (hC : Chg w w' X) (hs : ∀ b, s.v.ownBlock = some b → ¬ X b) (hX : ∀ b, X' b → b < w.heap.size → X b) : RowsX X' base e w' s L := by
  obtain ⟨ss, hO, hl, hr⟩ := h.ex
  exact ⟨ss, hO.keep fun b hb => hC.block b (hO.blk b hb).2 (hs b hb), hl, fun j h1 h2 =>
    ((hr j h1 h2).weak (D' := fun b => (s.v.ownBlock ≠ some b ∧ ¬ X b) ∧ ¬ X' b) (fun b h3 h4 => ⟨h3, fun hx => h3.2 (hX b hx h4)⟩) RepP.pos).chg hC (fun b hb _ => hb.1.2) |>.weak (fun b hb _ => ⟨hb.1.1, hb.2⟩) RepP.pos⟩

theorem RUN_append_X {X : Nat → Prop} {P : Program} {t : TypeId} {bytes : Nat} {z : Value} (hT : SlT P t e 1 bytes z) {b1 : Nat} {y r : Sl} {l : List α} (h : RowsX X base e w s L) (hbase : base ≤ w.heap.size) (hE : Ext w w') (hr : SlR (fun b => s.v.ownBlock ≠ some b ∧ ¬ X b) w' r l)
    (hy : OwnL w' b1 e y [r]) (hlen : (L.length + 1) * bytes ≤ 140737488355328) (hmax : L.length + 1 ≤ maxLen) {K : Sl → World → Prop}
    (hk : ∀ s' w2, RowsX X base e w2 s' (L ++ [l]) → Step w' w2 s.v.ownBlock → NewOr w' s s' → K s' w2) : RUN P (.at .sl) (bsem .append #[t, t] t #[s.v, y.v]) w' K := by
  obtain ⟨ss, hO, hl, hss⟩ := h.ex
  have hO1 := hO.ext hE
  have hsz := hE.size_le
  refine RUN_appendF (α := Sl) hT hO1 (by omega) (hy.rep fun _ _ => trivial) (by simpa [hl] using hlen) (by simpa [hl] using hmax) fun s' w2 hO2 hs2 hN => hk s' w2 ⟨_, hO2, by simp [hl], fun j h1 h2 => ?_⟩ hs2 hN
  have hw : ∀ b, s.v.ownBlock ≠ some b → b < w'.heap.size → s'.v.ownBlock ≠ some b := fun b hb hlt he => by
    rcases hN with hN | hN
    · exact hb (hN ▸ he)
    · have := hN b he; omega
  have main : ∀ {r : Sl} {q : List α}, SlR (fun b => s.v.ownBlock ≠ some b ∧ ¬ X b) w' r q → SlR (fun b => s'.v.ownBlock ≠ some b ∧ ¬ X b) w2 r q := fun {r q} hR =>
    (SlR.stepD (hR.weak (D' := fun b => s.v.ownBlock ≠ some b ∧ s'.v.ownBlock ≠ some b ∧ ¬ X b) (fun b h3 h4 => ⟨h3.1, hw b h3.1 h4, h3.2⟩) RepP.pos) hs2 (fun b hb => hb.1)).weak (fun b hb _ => hb.2) RepP.pos
  by_cases hj : j < ss.length
  · have hjl : j < L.length := by omega
    rw [List.getElem_append_left hj, List.getElem_append_left hjl]
    exact main ((hss j hj hjl).ext hE)
  · have hjl : j = L.length := by simp at h2; omega
    subst hjl
    have e1 : (ss ++ [r])[L.length]'h1 = r := by
      rw [List.getElem_append_right (by omega)]; simp [hl]
    have e2 : (L ++ [l])[L.length]'h2 = l := by
      rw [List.getElem_append_right (by omega)]; simp
    rw [e1, e2]
    exact main hr

end
end Go.GX
end

section
/- Walk problems, the program: components, flexible labels. -/
namespace Go.Proofs.YtfiginahjofdnaaGreat
open Go.GX Go.RowKit
set_option maxRecDepth 100000

theorem setOf_ok {w : World} {s : Sl} {L : List Int} {n : Nat} (h : R w s L) (hn : n ≤ 12) (hL : ∀ x ∈ L, ∃ a : Nat, x = a ∧ a < n) :
    Calls Tryz.prog F.i_setOf #[s.v] w (Ret [.at (.int .i64)] fun (x : Int) w' => w = w' ∧ x = ((maskP n (fun a : Nat => (a : Int) ∈ L) : Nat) : Int)) := by
  refine C_i_setOf ?_
  unfold V_i_setOf
  rw [h.len]
  refine ⟨IN2 L.length fun i (x : Int) w' => w = w' ∧ x = ((maskP n (fun a : Nat => (a : Int) ∈ L.take i) : Nat) : Int), MN2 L.length, IN2_zero ⟨rfl, by rw [maskP_none (fun a _ => by simp)]; rfl⟩, ?_⟩
  rintro _ _ _ ⟨i, rfl, hi, rfl, rfl⟩
  intros
  refine cond_dec (fun hlt => ?_) (fun hge => ?_)
  · have hi' : i < L.length := by omega
    refine h.ixI hi' fun q _ hc => LD_int hc ?_
    obtain ⟨a, ha, han⟩ := hL _ (List.getElem_mem hi')
    rw [ha]
    refine ⟨by omega, ?_⟩
    rw [shl_maskP hn han, or_maskP hn]
    refine IN2_next h.le hi' ⟨rfl, ?_⟩
    congr 1
    refine maskP_congr fun b _ => ?_
    rw [List.take_succ_eq_append_getElem hi', ha, List.mem_append, List.mem_singleton, Int.natCast_inj]
  · have : i = L.length := by omega
    subst this
    rw [List.take_length]
    exact ⟨rfl, rfl⟩

/-- What is known of components and periods whose roots are some labels. -/
structure CompsIs (E : Nat → Nat → Prop) (n : Nat) (rs : List Nat) (CL : List (List Int)) (PL : List Int) : Prop where
  cl : CL = rs.map (compL E n)
  pl : PL.length = rs.length
  per : ∀ j (h1 : j < PL.length) (h2 : j < rs.length), ∃ P : Nat, PL[j] = P ∧ P ≤ 100 ∧ (P = 1 ↔ Flex E rs[j])
theorem CompsIs.I64 {E : Nat → Nat → Prop} {n : Nat} {rs : List Nat} {CL : List (List Int)} {PL : List Int} (h : CompsIs E n rs CL PL) : ∀ x ∈ PL, I64 x := fun x hx => by
  obtain ⟨j, hj, rfl⟩ := List.mem_iff_getElem.1 hx
  obtain ⟨P, he, hP, _⟩ := h.per j hj (by rw [← h.pl]; exact hj)
  rw [he]; unfold GX.I64; omega
theorem CompsIs.add {E : Nat → Nat → Prop} {n : Nat} {rs : List Nat} {CL : List (List Int)} {PL : List Int} (h : CompsIs E n rs CL PL) {a P : Nat} (hP : P ≤ 100 ∧ (P = 1 ↔ Flex E a)) : CompsIs E n (rs ++ [a]) (CL ++ [compL E n a]) (PL ++ [(P : Int)]) :=
  ⟨by rw [h.cl, List.map_append, List.map_singleton], by simp [h.pl], fun j h1 h2 => by
    have hpl := h.pl
    by_cases hj : j < rs.length
    · rw [List.getElem_append_left (by omega), List.getElem_append_left hj]
      exact h.per j _ hj
    · have : j = rs.length := by simp at h2; omega
      subst this
      refine ⟨P, ?_, hP.1, ?_⟩
      · rw [List.getElem_append_right (by omega)]; simp [hpl]
      · rw [List.getElem_append_right (by omega)]; simpa using hP.2⟩
theorem roots_len {E : Nat → Nat → Prop} {a : Nat} {rs : List Nat} (h : Roots E a rs) : rs.length ≤ a := nodup_length a rs (h.apart.imp fun {x y} hc (he : x = y) => hc (by subst he; exact Comp.refl)) h.lt

structure CompsS (w0 : World) (E : Nat → Nat → Prop) (n a : Nat) (s6 s7 : Sl) (x8 : Int) (w : World) : Prop where
  ext : Ext w0 w
  ex : ∃ rs CL PL, Roots E a rs ∧ CompsIs E n rs CL PL ∧ RowsX (oB s7) w0.heap.size T.t_sl_int w s6 CL ∧ OwnL w w0.heap.size T.t_int s7 PL
  done : x8 = ((maskP n (fun b => ∃ r, r < a ∧ Comp E r b) : Nat) : Int)

set_option maxHeartbeats 1000000 in
theorem walkComponents_ok {w : World} {s : Sl} {p : WPr} (h : RWk w s p) (hg : WGood p) :
    Calls Tryz.prog F.i_WalkProblem_walkComponents #[.agg #[.int .i64 p.labels, s.v]] w (Ret [.at .sl, .at .sl] fun (r6 : Sl) (r7 : Sl) w' => Ext w w' ∧ ∃ rs CL PL, Roots (arcE p.arcs) p.labels.toNat rs ∧ CompsIs (arcE p.arcs) p.labels.toNat rs CL PL ∧ R w' r6 CL ∧ R w' r7 PL) := by
  refine C_i_WalkProblem_walkComponents ?_
  unfold V_i_WalkProblem_walkComponents
  refine NEW_intro fun pp w1 hp1 hs1 hE1 hb1 => ?_
  intro w2 hE2 _
  have hE12 := hE1.trans hE2
  have hb2 := hb1.ext hE2
  refine LD_is hb2 (LD_is hb2 ?_)
  refine call (closure_ok (h.ext hE12) hg) ?_
  rintro tc w3 ⟨hE3, hO3⟩
  refine ⟨hE3, ?_⟩
  refine call (after_ok (h.ext (hE12.trans hE3)) hg) ?_
  rintro ta w4 ⟨hE4, hO4⟩
  have hE24 := hE3.trans hE4
  refine ⟨hE24, hE24, ?_⟩
  have hl := hg.lab
  have hrelE : ∀ x y, arcE p.arcs x y → x < p.labels.toNat ∧ y < p.labels.toNat := fun x y hxy => hg.rel hxy
  have hper := fun {w : World} {t : Sl} {r : Nat} {C : List Int} (h' : RWk w s p) (hC : R w t C) => periodOf_ok (r := r) h' hg hC
  generalize hEe : arcE p.arcs = E at *
  generalize hnn : p.labels.toNat = n at *
  have hn12 : n ≤ 12 := by omega
  have hRc4 : R w4 tc (closeL E n) := ((hO3.ext hE4).rep (closeL_I64 hn12)).any
  have hRa4 : R w4 ta (afterL p.arcs n) := (hO4.rep (afterL_I64 hn12)).any
  have hE04 := hE12.trans hE24
  have hb4 := hb2.ext hE24
  have hlt4 := hb4.lt
  rw [hRc4.len, closeL_len]
  have memC : ∀ {r b : Nat}, Comp E r b → r < n → b < n := fun {r b} hc hr => by
    obtain ⟨⟨k, hw⟩, _⟩ := hc
    rcases Nat.eq_zero_or_pos k with rfl | hk
    · cases hw; exact hr
    · exact hw.lt (fun x y hxy => (hrelE x y hxy).2) hk
  refine ⟨fun s6 s7 x8 x w' => ∃ a : Nat, x = a ∧ a ≤ n ∧ CompsS w4 E n a s6 s7 x8 w', fun _ _ _ x _ => n - x.toNat, ⟨0, rfl, by omega, Ext.refl _, ⟨[], [], [], Roots.nil E, ⟨rfl, rfl, fun j h1 => by simp at h1⟩, RowsX.nil _ _ _ _, OwnL.nil _ _ _⟩, by rw [maskP_none fun b _ ⟨r, hr, _⟩ => by omega]; rfl⟩, ?_⟩
  rintro s6 s7 x8 _ w5 ⟨a, rfl, ha, hE5, ⟨rs, CL, PL, hrs, hcp, hX6, hO7⟩, rfl⟩
  intros
  have next : ∀ {s6' s7' : Sl} {x8' : Int} {w' : World}, a < n → CompsS w4 E n (a + 1) s6' s7' x8' w' → (∃ a' : Nat, IntKind.i64.wrap ((a : Int) + 1) = a' ∧ a' ≤ n ∧ CompsS w4 E n a' s6' s7' x8' w') ∧ n - (IntKind.i64.wrap ((a : Int) + 1)).toNat < n - ((a : Int)).toNat := fun han hS => by
    rw [wrap_of (by omega) (by omega)]
    exact ⟨⟨a + 1, by omega, by omega, hS⟩, by omega⟩
  refine cond_dec (fun hlt => ?_) (fun hge => ?_)
  · have han : a < n := by omega
    refine ⟨by omega, ?_⟩
    classical
    rw [bit_maskP hn12 han]
    by_cases hdone : ∃ r, r < a ∧ Comp E r a
    · rw [if_pos hdone]
      refine cond_t (by rfl) (next han ⟨hE5, ⟨rs, CL, PL, hrs.skip fun hc => ?_, hcp, hX6, hO7⟩, ?_⟩)
      · obtain ⟨r0, hr0, hcm⟩ := hdone
        obtain ⟨r, hr, hx⟩ := hrs.cover r0 hr0 (cyc_comp hcm.symm hc)
        exact ⟨r, hr, hx.trans hcm⟩
      · congr 1
        refine maskP_congr fun b _ => ⟨fun ⟨r, h1, h2⟩ => ⟨r, by omega, h2⟩, fun ⟨r, h1, h2⟩ => ?_⟩
        by_cases he : r = a
        · subst he
          obtain ⟨r0, hr0, hcm⟩ := hdone
          exact ⟨r0, hr0, hcm.trans h2⟩
        · exact ⟨r, by omega, h2⟩
    · rw [if_neg hdone]
      refine cond_f (by rfl) ?_
      have hRc5 := hRc4.ext hE5
      have hal : a < (closeL E n).length := by rw [closeL_len]; exact han
      refine hRc5.ixI hal fun q _ hcq => LD_int hcq ?_
      rw [closeL_get hal]
      refine call (labels12_ok (maskP_small hn12 _) w5) ?_
      rintro u w6 ⟨hE6, hO6⟩
      generalize hL : labs (maskP n fun b => ∃ k, Wk E k a b) = L at hO6
      have hL64 : ∀ x ∈ L, I64 x := by subst hL; exact labs_I64 _
      have hLlen : L.length ≤ 12 := by subst hL; exact labs_len _
      have hLm : ∀ x, x ∈ L ↔ ∃ b : Nat, x = b ∧ b < n ∧ ∃ k, Wk E k a b := by subst hL; exact fun x => mem_labsP hn12
      have hLs : L.Pairwise (· < ·) := by subst hL; exact labs_sorted _
      have hRu := (hO6.rep hL64).any
      rw [hRu.len]
      have hz6 := hE6.size_le
      refine ⟨IN2 L.length fun j (x : Sl) w' => Ext w6 w' ∧ OwnL w' w6.heap.size T.t_int x ((L.take j).filter fun y => decide (Comp E a y.toNat)), MN2 L.length, IN2_zero ⟨Ext.refl _, OwnL.nil _ _ _⟩, ?_⟩
      rintro x10 _ w7 ⟨j, rfl, hj, hE7, hO10⟩
      intros
      refine cond_dec (fun hlt2 => ?_) (fun hge2 => ?_)
      · have hj' : j < L.length := by omega
        refine (hRu.ext hE7).ixI hj' fun q2 _ hc2 => LD_int hc2 ?_
        obtain ⟨b, hb, hbn, hbk⟩ := (hLm L[j]).1 (List.getElem_mem hj')
        rw [hb]
        have hbl : b < (closeL E n).length := by rw [closeL_len]; exact hbn
        refine (hRc5.ext (hE6.trans hE7)).ixI hbl fun q3 _ hc3 => LD_int hc3 ⟨by omega, ?_⟩
        rw [closeL_get hbl, bit_maskP hn12 han]
        have hcomp : Comp E a b ↔ ∃ k, Wk E k b a := ⟨fun hc => hc.2, fun hk => ⟨hbk, hk⟩⟩
        by_cases hback : ∃ k, Wk E k b a
        · rw [if_pos hback]
          refine cond_t (by rfl) ?_
          refine RUN_lit1 (α := Int) slt_int (b : Int) rfl (by decide) fun y w8 hE8 hO8 => ?_
          have hz7 := hE7.size_le
          have hz8 := hE8.size_le
          have hfl : ((L.take j).filter fun y => decide (Comp E a y.toNat)).length ≤ 12 := Nat.le_trans (List.length_filter_le _ _) (by rw [List.length_take]; omega)
          refine RUN_append (α := Int) slt_int (hO10.ext hE8) (by omega) (hO8.rep (by intro x hx; rw [List.mem_singleton.1 hx]; show I64 _; unfold GX.I64; omega)).any (by simp; omega) (by simp [maxLen]; omega) fun r' w9 hO9 hs9 => ?_
          refine IN2_next (by omega) hj' ⟨hs9.ext0 (hE7.trans hE8) fun k hk => (hO10.blk k hk).1, ?_⟩
          rw [List.take_succ_eq_append_getElem hj', hb, List.filter_append]
          have : ([(b : Int)].filter fun y => decide (Comp E a y.toNat)) = [(b : Int)] := by simp [hcomp.2 hback]
          rw [this]; exact hO9
        · rw [if_neg hback]
          refine cond_f (by rfl) (IN2_next (by omega) hj' ⟨hE7, ?_⟩)
          rw [List.take_succ_eq_append_getElem hj', hb, List.filter_append]
          have : ([(b : Int)].filter fun y => decide (Comp E a y.toNat)) = [] := by
            have hno : ¬ Comp E a b := fun hc => hback (hcomp.1 hc)
            simp [hno]
          rw [this, List.append_nil]; exact hO10
      · have : j = L.length := by omega
        subst this
        rw [List.take_length] at hO10
        have hC : (L.filter fun y => decide (Comp E a y.toNat)) = compL E n a := sorted_ext (hLs.filter _) (compL_sorted _ _ _) fun x => by
          rw [List.mem_filter, hLm, compL_mem]
          constructor
          · rintro ⟨⟨b, rfl, hb, _⟩, hc⟩
            exact ⟨b, rfl, hb, by simpa using hc⟩
          · rintro ⟨b, rfl, hb, hc⟩
            exact ⟨⟨b, rfl, hb, hc.1⟩, by simpa using hc⟩
        rw [hC] at hO10
        have hC64 : ∀ x ∈ compL E n a, I64 x := fun x hx => by
          obtain ⟨b, rfl, hb, _⟩ := compL_mem.1 hx
          unfold GX.I64; omega
        have hR10 : R w7 x10 (compL E n a) := (hO10.rep hC64).any
        have hClen := compL_len E n a
        refine call (setOf_ok hR10 hn12 fun x hx => by obtain ⟨b, h1, h2, _⟩ := compL_mem.1 hx; exact ⟨b, h1, h2⟩) ?_
        rintro _ _ ⟨rfl, rfl⟩
        have hmask : maskP n (fun b : Nat => (b : Int) ∈ compL E n a) = maskP n (fun b => Comp E a b) := maskP_congr fun b hb => by rw [compL_mem']; exact ⟨fun hh => hh.2, fun hh => ⟨hb, hh⟩⟩
        rw [hmask]
        have hE57 := hE6.trans hE7
        have hE47 := hE5.trans hE57
        rw [hR10.len]
        have hdn : ∀ {x : Int}, x = bitOr .i64 ((maskP n (fun b => ∃ r, r < a ∧ Comp E r b) : Nat) : Int) ((maskP n (fun b => Comp E a b) : Nat) : Int) → x = ((maskP n (fun b => ∃ r, r < a + 1 ∧ Comp E r b) : Nat) : Int) := fun hx => by
          rw [hx, or_maskP hn12]
          congr 1
          refine maskP_congr fun b _ => ⟨?_, ?_⟩
          · rintro (⟨r, h1, h2⟩ | h2)
            · exact ⟨r, by omega, h2⟩
            · exact ⟨a, by omega, h2⟩
          · rintro ⟨r, h1, h2⟩
            by_cases he : r = a
            · subst he; exact .inr h2
            · exact .inl ⟨r, by omega, h2⟩
        refine ⟨IN2 (compL E n a).length fun j (x : Bool) w' => Ext w7 w' ∧ (x = true ↔ ∃ b c : Nat, (b : Int) ∈ (compL E n a).take j ∧ Comp E a c ∧ E b c), MN2 (compL E n a).length, IN2_zero ⟨Ext.refl _, by simp⟩, ?_⟩
        rintro x11 _ w11 ⟨j, rfl, hj, hE11, hx11⟩
        intros
        refine cond_dec (fun hlt3 => ?_) (fun hge3 => ?_)
        · have hj' : j < (compL E n a).length := by omega
          refine (hR10.ext hE11).ixI hj' fun q4 _ hc4 => LD_int hc4 ?_
          obtain ⟨b, hb, hbn, hbc⟩ := compL_mem.1 (List.getElem_mem hj')
          rw [hb]
          have htk : (compL E n a).take (j + 1) = (compL E n a).take j ++ [(b : Int)] := by rw [List.take_succ_eq_append_getElem hj', hb]
          refine cond_b (fun ht w12 hE12' => ?_) (fun hf => ?_)
          · refine IN2_next (by omega) hj' ⟨hE11.trans hE12', ?_⟩
            obtain ⟨b', c, h1, h2, h3⟩ := hx11.1 ht
            exact ⟨fun _ => ⟨b', c, by rw [htk]; exact List.mem_append_left _ h1, h2, h3⟩, fun _ => rfl⟩
          · have hbl : b < (afterL p.arcs n).length := by rw [afterL_len]; exact hbn
            refine (hRa4.ext (hE47.trans hE11)).ixI hbl fun q5 _ hc5 => LD_int hc5 ?_
            rw [afterL_get hbl]
            refine QCALL_int ((maskP n (fun b => Comp E a b) : Nat) : Int) (fun w' hE' => ?_) ?_
            · refine call (setOf_ok ((hR10.ext hE11).ext hE') hn12 fun x hx => by obtain ⟨b, h1, h2, _⟩ := compL_mem.1 hx; exact ⟨b, h1, h2⟩) ?_
              rintro _ _ ⟨rfl, rfl⟩
              exact ⟨by rw [hmask], Ext.refl _⟩
            · intro w13 hE13
              rw [hEe, and_maskP hn12]
              refine IN2_next (by omega) hj' ⟨hE11.trans hE13, ?_⟩
              have hnz : (((((maskP n fun c => E b c ∧ Comp E a c) : Nat) : Int) != 0) = true) ↔ ∃ c, E b c ∧ Comp E a c := by
                rw [bne_iff_ne]
                constructor
                · intro hne
                  refine Classical.byContradiction fun hno => hne ?_
                  rw [maskP_none fun c _ hc => hno ⟨c, hc⟩]; rfl
                · rintro ⟨c, h1, h2⟩ hz
                  exact maskP_zero (n := n) (P := fun c => E b c ∧ Comp E a c) (by exact_mod_cast hz) c (hrelE b c h1).2 ⟨h1, h2⟩
              rw [hnz, htk]
              constructor
              · rintro ⟨c, h1, h2⟩
                exact ⟨b, c, by simp, h2, h1⟩
              · rintro ⟨b', c, h1, h2, h3⟩
                rcases List.mem_append.1 h1 with h1 | h1
                · rw [hx11.2 ⟨b', c, h1, h2, h3⟩] at hf; cases hf
                · have : b' = b := by have := List.mem_singleton.1 h1; omega
                  subst this
                  exact ⟨c, h3, h2⟩
        · have : j = (compL E n a).length := by omega
          subst this
          rw [List.take_length] at hx11
          have hcyc : x11 = true ↔ ∃ k, 0 < k ∧ Wk E k a a := by
            rw [hx11, ← cyc_iff]
            exact ⟨fun ⟨b, c, h1, h2, h3⟩ => ⟨b, c, (compL_mem'.1 h1).2, h2, h3⟩, fun ⟨b, c, h1, h2, h3⟩ => ⟨b, c, compL_mem'.2 ⟨memC h1 han, h1⟩, h2, h3⟩⟩
          have hE4_11 := hE47.trans hE11
          have hX11 := hX6.ext (hE57.trans hE11)
          have hO711 := hO7.ext (hE57.trans hE11)
          refine cond_b (fun ht => ?_) (fun hf => next han ⟨hE4_11, ⟨rs, CL, PL, hrs.skip fun hc => (by rw [hcyc.2 hc] at hf; cases hf), hcp, hX11, hO711⟩, hdn rfl⟩)
          have hca := hcyc.1 ht
          intro w14 hE14 _
          have hE4_14 := hE4_11.trans hE14
          have hX14 := hX11.ext hE14
          have hO714 := hO711.ext hE14
          have hE7_14 := hE11.trans hE14
          have hO10_14 := hO10.ext hE7_14
          have hz5 := hE5.size_le
          have hz7 := hE7.size_le
          have hz714 := hE7_14.size_le
          have hp4 : ¬ (oB s6 pp.block ∨ oB s7 pp.block) := fun hh => hh.elim (fun h1 => by have := (hX6.blk h1).1; omega) (fun h1 => by have := (hO7.blk _ h1).1; omega)
          refine ⟨fun b => oB s6 b ∨ oB s7 b, hp4, LD_is (hb4.ext hE4_14) ?_⟩
          refine RUN_lit1 (α := Sl) slt_rows x10 rfl (by decide) fun y w15 hE15 hO15 => ⟨.of_ext hE15, ?_⟩
          have hlen6 : CL.length ≤ 12 := by rw [hcp.cl, List.length_map]; have := roots_len hrs; omega
          have hlen7 : PL.length ≤ 12 := by rw [hcp.pl]; have := roots_len hrs; omega
          have hrow : SlR (fun b => s6.v.ownBlock ≠ some b ∧ ¬ oB s7 b) w15 x10 (compL E n a) := ((hO10_14.rep hC64).ext hE15).weak (fun b hb _ => ⟨fun he => by have h1 := (hX6.blk he).2; have h2 : w6.heap.size ≤ b := hb; omega, fun he => by have h1 := (hO7.blk _ he).2; have h2 : w6.heap.size ≤ b := hb; omega⟩) RepP.pos
          refine RUN_append_X slt_rows hX14 (by omega) hE15 hrow hO15 (by omega) (by unfold maxLen; omega) fun s6' w16 hX16 hs16 hN16 => ?_
          have hz15 := hE15.size_le
          have hz16 := hs16.size
          have hC16 : Chg w14 w16 (fun b => oB s6 b ∨ oB s7 b) := (Chg.of_ext hE15).trans (.of_step hs16 fun k hk => .inl hk)
          refine ⟨hC16, ?_⟩
          have hE4_16 : Ext w4 w16 := hs16.ext0 (hE4_14.trans hE15) fun k hk => (hX6.blk hk).1
          have hne67 : ∀ b, s7.v.ownBlock = some b → ¬ s6.v.ownBlock = some b := by
            obtain ⟨ss, hOs, _⟩ := hX14.ex
            exact own_apart hO714 hOs (by decide)
          have hO716 := (hO714.ext hE15).keep fun b hb => hs16.block b ((hO714.ext hE15).blk b hb).2 fun he => hne67 b hb he.symm
          have hR10_16 : R w16 x10 (compL E n a) := ((hO10_14.rep hC64).ext hE15).stepD hs16 (fun b hb he => by have h1 := (hX6.blk he).2; have h2 : w6.heap.size ≤ b := hb; omega) |>.any
          have hE0_16 := hE04.trans hE4_16
          have h0C : 0 < (compL E n a).length := List.length_pos_of_mem (compL_mem'.2 ⟨han, Comp.refl⟩)
          have hC0 : (compL E n a)[0] = (a : Int) := by
            obtain ⟨b, hb, hbn, hbc⟩ := compL_mem.1 (List.getElem_mem h0C)
            obtain ⟨i, hi, he⟩ := List.mem_iff_getElem.1 (compL_mem'.2 (show a < n ∧ Comp E a a from ⟨han, Comp.refl⟩))
            have hle : b ≤ a := by
              rcases Nat.eq_zero_or_pos i with rfl | hi0
              · rw [he] at hb; omega
              · have := List.pairwise_iff_getElem.1 (compL_sorted E n a) 0 i h0C hi hi0
                rw [he, hb] at this; omega
            by_cases hba : b = a
            · rw [hb, hba]
            · exact absurd ⟨b, by omega, hbc.symm⟩ hdone
          refine call (hper (h.ext hE0_16) hR10_16 h0C hC0 han fun b => compL_mem') ?_
          rintro _ w17 ⟨hE17, P, rfl, hP100, hPd⟩
          refine ⟨hC16.trans (.of_ext hE17), ?_⟩
          refine RUN_lit1 (α := Int) slt_int (P : Int) rfl (by decide) fun y2 w18 hE18 hO18 => ⟨hC16.trans (.of_ext (hE17.trans hE18)), ?_⟩
          have hE1618 := hE17.trans hE18
          have hz1618 := hE1618.size_le
          have hO718 := hO716.ext hE1618
          refine RUN_appendF (α := Int) slt_int hO718 (by omega) (hO18.rep (by intro x hx; rw [List.mem_singleton.1 hx]; show I64 _; unfold GX.I64; omega)).any (by simp; omega) (by simp [maxLen]; omega) fun s7' w19 hO19 hs19 hN19 => ?_
          have hC19 : Chg w14 w19 (fun b => oB s6 b ∨ oB s7 b) := (hC16.trans (.of_ext hE1618)).trans (.of_step hs19 fun k hk => .inr hk)
          refine ⟨hC19, hC19, ?_⟩
          have hX18 := hX16.ext hE1618
          have hX19 : RowsX (oB s7') w4.heap.size T.t_sl_int w19 s6' (CL ++ [compL E n a]) := hX18.chg (.of_step hs19 fun k hk => hk) (fun b hb hb7 => by
            obtain ⟨ss, hOs, _⟩ := hX18.ex
            exact own_apart hO718 hOs (by decide) b hb7 hb) fun b hb hlt => by
            rcases hN19 with hN | hN
            · exact (show s7.v.ownBlock = some b from hN ▸ hb)
            · have := hN b hb; omega
          exact next han ⟨hs19.ext0 (hE4_16.trans hE1618) fun k hk => (hO7.blk k hk).1, ⟨rs ++ [a], CL ++ [compL E n a], PL ++ [(P : Int)], hrs.add hca fun r hr hc => hdone ⟨r, hrs.lt r hr, hc⟩, hcp.add ⟨hP100, (flex_of hPd hca).1⟩, hX19, hO19⟩, hdn rfl⟩
  · have : a = n := by omega
    subst this
    exact ⟨hE04.trans hE5, rs, CL, PL, hrs, hcp, hX6.rep, (hO7.rep hcp.I64).any⟩

theorem flexibleLabels_ok {w : World} {s : Sl} {p : WPr} (h : RWk w s p) (hg : WGood p) :
    Calls Tryz.prog F.i_WalkProblem_flexibleLabels #[.agg #[.int .i64 p.labels, s.v]] w (Ret [.at .sl] fun (r : Sl) w' => Ext w w' ∧ OwnL w' w.heap.size T.t_int r (flexL (arcE p.arcs) p.labels.toNat)) := by
  refine C_i_WalkProblem_flexibleLabels ?_
  unfold V_i_WalkProblem_flexibleLabels
  refine NEW_intro fun pp w1 hp1 hs1 hE1 hb1 => LD_is hb1 ?_
  refine call (walkComponents_ok (h.ext hE1) hg) ?_
  rintro r6 r7 w2 ⟨hE2, rs, CL, PL, hrs, hcp, hR6, hR7⟩
  have hl := hg.lab
  generalize arcE p.arcs = E at *
  generalize hnn : p.labels.toNat = n at *
  have hn12 : n ≤ 12 := by omega
  have hrl := roots_len hrs
  have hcl : CL.length = rs.length := by rw [hcp.cl, List.length_map]
  have hz1 := hE1.size_le
  have hz2 := hE2.size_le
  rw [hR6.len, hcl]
  classical
  have hfs : ∀ i, (((rs.take i).filter fun r => decide (Flex E r)).flatMap (compL E n)).length ≤ 12 := fun i => by
    have hpw : ((rs.take i).filter fun r => decide (Flex E r)).Pairwise fun r q => ¬ Comp E r q := (hrs.apart.sublist (List.take_sublist _ _)).filter _
    have hnd := flex_nodup (n := n) hpw
    have h1 : ((((rs.take i).filter fun r => decide (Flex E r)).flatMap (compL E n)).map Int.toNat).length ≤ n := nodup_length n _ (by
      unfold List.Nodup
      rw [List.pairwise_map]
      refine List.Pairwise.imp_of_mem ?_ hnd
      intro x y hx hy hne he
      obtain ⟨r, _, hx⟩ := List.mem_flatMap.1 hx
      obtain ⟨q, _, hy⟩ := List.mem_flatMap.1 hy
      obtain ⟨u, rfl, _, _⟩ := compL_mem.1 hx
      obtain ⟨v, rfl, _, _⟩ := compL_mem.1 hy
      exact hne (by simp only [Int.toNat_natCast] at he; rw [he])) (fun x hx => by
      obtain ⟨y, hy, rfl⟩ := List.mem_map.1 hx
      obtain ⟨r, _, hy⟩ := List.mem_flatMap.1 hy
      obtain ⟨u, rfl, hu, _⟩ := compL_mem.1 hy
      simpa using hu)
    rw [List.length_map] at h1
    omega
  refine ⟨IN2 rs.length fun i (x : Sl) w' => Ext w2 w' ∧ OwnL w' w2.heap.size T.t_int x (((rs.take i).filter fun r => decide (Flex E r)).flatMap (compL E n)), MN2 rs.length, IN2_zero ⟨Ext.refl _, OwnL.nil _ _ _⟩, ?_⟩
  rintro out _ w3 ⟨i, rfl, hi, hE3, hO3⟩
  intros
  refine cond_dec (fun hlt => ?_) (fun hge => ?_)
  · have hi' : i < rs.length := by omega
    refine (hR6.ext hE3).ixL (i := i) (by omega) fun q row hrow hc => LD_sl hc ?_
    have hrowE : CL[i]'(by omega) = compL E n rs[i] := by simp only [hcp.cl, List.getElem_map]
    rw [hrowE] at hrow
    have hpl : i < PL.length := by rw [hcp.pl]; exact hi'
    refine (hR7.ext hE3).ixI hpl fun q2 _ hc2 => LD_int hc2 ?_
    obtain ⟨P, hP, _, hPf⟩ := hcp.per i hpl hi'
    rw [hP]
    have htk : rs.take (i + 1) = rs.take i ++ [rs[i]] := List.take_succ_eq_append_getElem hi'
    refine cond_eq (fun h1 => ?_) (fun hne => ?_)
    · have hF : Flex E rs[i] := hPf.1 (by have : (P : Int) = 1 := h1; omega)
      have hcl2 := compL_len E n rs[i]
      have hfi := hfs i
      refine RUN_append (α := Int) slt_int hO3 hE3.size_le hrow.any (by omega) (by unfold maxLen; omega) fun s' w4 hO4 hs4 => ?_
      refine IN2_next (by omega) hi' ⟨hs4.ext0 hE3 fun k hk => (hO3.blk k hk).1, ?_⟩
      rw [htk, List.filter_append, List.flatMap_append]
      have e : ([rs[i]].filter fun r => decide (Flex E r)) = [rs[i]] := by simp [hF]
      rw [e]; simpa using hO4
    · have hF : ¬ Flex E rs[i] := fun hf => hne (by rw [hPf.2 hf]; rfl)
      refine IN2_next (by omega) hi' ⟨hE3, ?_⟩
      rw [htk, List.filter_append]
      have e : ([rs[i]].filter fun r => decide (Flex E r)) = [] := by simp [hF]
      rw [e, List.append_nil]; exact hO3
  · have : i = rs.length := by omega
    subst this
    rw [List.take_length] at hO3
    have hfi := hfs rs.length
    rw [List.take_length] at hfi
    refine call (sort_ok hO3 (by omega)) ?_
    rintro w5 ⟨hO5, hs5⟩
    have e : flexL E n = sortI ((rs.filter fun r => decide (Flex E r)).flatMap (compL E n)) := eq_sortI (flexL_sorted E n) (flex_nodup (hrs.apart.filter _)) fun x => (flex_roots hrs (fun r => by simp [List.mem_filter]) x).symm
    rw [← e] at hO5
    exact ⟨(hE1.trans hE2).trans (hs5.ext0 hE3 fun k hk => (hO3.blk k hk).1), hO5.low (by omega)⟩

end Go.Proofs.YtfiginahjofdnaaGreat
end
