/- Halving a palette: HalveColours, both sides. -/
import Derived.Test.YtoeaoinedidbiaaReduce
namespace Go.Proofs.Ytoeaoinedidbiaa
open Go.GX Go.RowKit
set_option maxRecDepth 100000

theorem d_cases {d : Int} (h : 0 ≤ d ∧ d ≤ 6) : d = 0 ∨ d = 1 ∨ d = 2 ∨ d = 3 ∨ d = 4 ∨ d = 5 ∨ d = 6 := by omega

theorem halve_arith {d x : Int} (hd : 0 ≤ d ∧ d ≤ 6) (h0 : 0 ≤ x) (h1 : x ≤ 1000000000000) :
    0 ≤ x / (2 * (d + 1)) ∧ x / (2 * (d + 1)) ≤ x ∧ x / (2 * (d + 1)) * (2 * (d + 1)) = x - x % (2 * (d + 1)) ∧ 0 ≤ x % (2 * (d + 1)) ∧ x % (2 * (d + 1)) < 2 * (d + 1) ∧ x % (2 * (d + 1)) ≤ x ∧
      0 ≤ x / (2 * (d + 1)) * (d + 1) ∧ x / (2 * (d + 1)) * (d + 1) ≤ x := by
  rcases d_cases hd with rfl | rfl | rfl | rfl | rfl | rfl | rfl <;> (refine ⟨?_, ?_, ?_, ?_, ?_, ?_, ?_, ?_⟩ <;> omega)

/-- Places within a block that the neighbours have. -/
def placesOf (d x : Int) (near : List Int) : List Int := (near.filter fun y => y / (2 * (d + 1)) == x / (2 * (d + 1))).map fun y => y % (2 * (d + 1))

theorem places_snoc (d x : Int) (l : List Int) (y : Int) : placesOf d x (l ++ [y]) = placesOf d x l ++ if y / (2 * (d + 1)) == x / (2 * (d + 1)) then [y % (2 * (d + 1))] else [] := by
  unfold placesOf
  rw [List.filter_append, List.map_append, List.filter_cons, List.filter_nil]
  split <;> rfl

theorem places_len (d x : Int) (l : List Int) : (placesOf d x l).length ≤ l.length := by
  unfold placesOf
  rw [List.length_map]
  exact List.length_filter_le _ _

def halveAt (E : Ends) (d r : Int) (l : List Int) (v : Nat) : Int :=
  if l.getD v 0 % (2 * (d + 1)) ≠ d + 1 + r then l.getD v 0 else l.getD v 0 / (2 * (d + 1)) * (2 * (d + 1)) + mex (placesOf d (l.getD v 0) (nearOf E l v))
def halveR (E : Ends) (d r : Int) (l : List Int) : List Int := (List.range l.length).map (halveAt E d r l)

def halveTo (E : Ends) (d : Int) (l : List Int) : Nat → List Int
  | 0 => l
  | r + 1 => halveR E d (r : Int) (halveTo E d l r)

def halfAt (d x : Int) : Int := x / (2 * (d + 1)) * (d + 1) + x % (2 * (d + 1))
def halveOf (E : Ends) (d : Int) (l : List Int) : List Int := (halveTo E d l (d + 1).toNat).map (halfAt d)
def palOf (d k : Int) : Int := (k + 2 * (d + 1) - 1) / (2 * (d + 1)) * (d + 1)

structure HalOk (n : Net) (d : Int) (l : List Int) : Prop extends ColsOk n d l where
  le : ∀ x ∈ l, x ≤ 1000000000000

theorem near_mem {n : Net} (hg : Good n) {l : List Int} (hlen : l.length = n.ends.length) {v : Nat} (hv : v < n.ends.length) : ∀ x ∈ nearOf n.ends l v, x ∈ l := by
  intro x hx
  rw [near_adj] at hx
  obtain ⟨u, hu, rfl⟩ := List.mem_map.1 hx
  obtain ⟨m, rfl, hm⟩ := adj_ok hg hv u hu
  have : m < l.length := by omega
  simp [this]

theorem halveAt_le {n : Net} {d : Int} {l : List Int} (h : HalOk n d l) (hd : 0 ≤ d ∧ d ≤ 6) {r : Int} (hr : 0 ≤ r) {v : Nat} (hv : v < l.length) : 0 ≤ halveAt n.ends d r l v ∧ halveAt n.ends d r l v ≤ l[v] := by
  have hve : v < n.ends.length := by rw [← h.len]; exact hv
  have h0 := h.nn _ (List.getElem_mem hv)
  have h1 := h.le _ (List.getElem_mem hv)
  obtain ⟨a1, a2, a3, a4, a5, a6, _, _⟩ := halve_arith hd h0 h1
  unfold halveAt
  have hg : l.getD v 0 = l[v] := by simp [hv]
  rw [hg]
  split
  · omega
  · rename_i hne
    have hm := mex_le (placesOf d l[v] (nearOf n.ends l v))
    have hp := places_len d l[v] (nearOf n.ends l v)
    have hn : (nearOf n.ends l v).length = n.ends[v].length := by rw [near_adj, List.length_map, adj_len h.good hve]
    have := h.deg v hve
    rw [a3]
    omega

theorem HalOk.next {n : Net} {d : Int} {l : List Int} (h : HalOk n d l) (hd : 0 ≤ d ∧ d ≤ 6) {r : Int} (hr : 0 ≤ r) : HalOk n d (halveR n.ends d r l) := by
  have key : ∀ x ∈ halveR n.ends d r l, 0 ≤ x ∧ x ≤ 1000000000000 := fun x hx => by
    obtain ⟨v, hv, rfl⟩ := List.mem_map.1 hx
    have hv' : v < l.length := by simpa using hv
    have := halveAt_le h hd hr hv'
    have := h.le _ (List.getElem_mem hv')
    omega
  exact ⟨⟨h.good, by simp [halveR, h.len], fun x hx => (key x hx).1, fun x hx => by have := key x hx; unfold I64; omega, h.deg⟩, fun x hx => (key x hx).2⟩

theorem HalOk.to {n : Net} {d : Int} {l : List Int} (h : HalOk n d l) (hd : 0 ≤ d ∧ d ≤ 6) : ∀ r, HalOk n d (halveTo n.ends d l r)
  | 0 => h
  | r + 1 => (h.to hd r).next hd (by omega)

theorem halfAt_ok {d x : Int} (hd : 0 ≤ d ∧ d ≤ 6) (h0 : 0 ≤ x) (h1 : x ≤ 1000000000000) : 0 ≤ halfAt d x ∧ halfAt d x ≤ 2000000000000 := by
  obtain ⟨a1, a2, a3, a4, a5, a6, a7, a8⟩ := halve_arith hd h0 h1
  unfold halfAt
  omega

/-- A better bound: half of the palette. -/
theorem halfAt_lt {d k x : Int} (hd : 0 ≤ d ∧ d ≤ 6) (h0 : 0 ≤ x) (h1 : x < k) (hk : k ≤ 1000000000000) (hx : x % (2 * (d + 1)) ≤ d) : halfAt d x < palOf d k := by
  unfold halfAt palOf
  rcases d_cases hd with rfl | rfl | rfl | rfl | rfl | rfl | rfl <;> omega

theorem pal_arith {d k : Int} (hd : 0 ≤ d ∧ d ≤ 6) (hk : 0 ≤ k ∧ k ≤ 1000000000000) : 0 ≤ (k + 2 * (d + 1) - 1) / (2 * (d + 1)) ∧ (k + 2 * (d + 1) - 1) / (2 * (d + 1)) ≤ 2000000000000 ∧ 0 ≤ palOf d k ∧ palOf d k ≤ 2000000000000 := by
  unfold palOf
  rcases d_cases hd with rfl | rfl | rfl | rfl | rfl | rfl | rfl <;> (refine ⟨?_, ?_, ?_, ?_⟩ <;> omega)

theorem tdiv_nn {x s : Int} (h : 0 ≤ x) : Int.tdiv x s = x / s := Int.tdiv_eq_ediv_of_nonneg h
theorem tmod_nn {x s : Int} (h : 0 ≤ x) : Int.tmod x s = x % s := Int.tmod_eq_emod_of_nonneg h

theorem PalAsked.hal {n : Net} {l : List Int} {k a : Int} (h : PalAsked n l k a) (hi : ∀ x ∈ l, I64 x) : HalOk n a l :=
  ⟨h.cols hi, fun x hx => (h.proper.2.1 x hx).2⟩

theorem halveOf_I64 {n : Net} {l : List Int} {d : Int} (h : HalOk n d l) (hd : 0 ≤ d ∧ d ≤ 6) : ∀ x ∈ halveOf n.ends d l, I64 x := fun x hx => by
  obtain ⟨y, hy, rfl⟩ := List.mem_map.1 hx
  have hH := h.to hd (d + 1).toNat
  have := halfAt_ok hd (hH.nn y hy) (hH.le y hy)
  unfold I64; omega

theorem halveOf_len {n : Net} {l : List Int} {d : Int} (h : HalOk n d l) (hd : 0 ≤ d ∧ d ≤ 6) : (halveOf n.ends d l).length = n.ends.length := by
  unfold halveOf
  rw [List.length_map, (h.to hd _).len]

end Go.Proofs.Ytoeaoinedidbiaa
