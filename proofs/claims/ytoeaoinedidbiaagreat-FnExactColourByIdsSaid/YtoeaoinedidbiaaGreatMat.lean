/- What the laws do with matrices: copy, compare, measure. Turned from our texts on a network's ends. -/
import Derived.Test.YtoeaoinedidbiaaGreatMark
import Derived.Test.YtoeaoinedidbiaaGreatRowsD
namespace Go.Proofs.YtoeaoinedidbiaaGreat
open Go.GX Go.RowKit
set_option maxRecDepth 100000

/-- A matrix of bounded size. -/
def SmallM (l : List (List Int)) : Prop := l.length ≤ 1048576 ∧ ∀ r ∈ l, r.length ≤ 1048576

theorem slt_rows : SlT Tryz.prog T.t_sl_sl_int T.t_sl_int 1 24 (.slice none 0 0) := ⟨by kernel_rfl, by kernel_rfl, rfl, by decide⟩

theorem flat_okII {w : World} {s : Sl} {l : List (List Int)} (h : R w s l) : ∀ r ∈ l, ∀ x ∈ r, Flat.ok x := fun r hr x hx => by
  obtain ⟨i, hi, rfl⟩ := List.mem_iff_getElem.1 hr
  obtain ⟨_, _, _, _, ⟨s', _, h1⟩, _⟩ := h.2.2 i l[i] (by simp [hi])
  exact flat_ok h1 x hx

/-! ### Marks in matrices -/

/-- How many numbers lie in the first rows. -/
def pre (L : List (List Int)) (i : Nat) : Nat := ((L.take i).map List.length).sum
theorem pre_zero (L : List (List Int)) : pre L 0 = 0 := by simp [pre]
theorem pre_succ {L : List (List Int)} {i : Nat} (hi : i < L.length) : pre L (i + 1) = pre L i + L[i].length := by
  unfold pre
  rw [List.take_succ_eq_append_getElem hi, List.map_append, List.sum_append]
  simp
theorem pre_le {L : List (List Int)} (hL : ∀ r ∈ L, r.length ≤ 1048576) : ∀ i, i ≤ L.length → pre L i ≤ 1048576 * i
  | 0, _ => by simp [pre]
  | i + 1, hi => by
    have ih := pre_le hL i (by omega)
    rw [pre_succ (by omega)]
    have := hL _ (List.getElem_mem (show i < L.length by omega))
    omega

def marks2 (k : Int) (L : List (List Int)) : List (List Int) := (List.range L.length).map fun i => marks (k + pre L i) (L.getD i []).length
theorem marks2_len (k : Int) (L : List (List Int)) : (marks2 k L).length = L.length := by simp [marks2]
theorem marks2_get {k : Int} {L : List (List Int)} {i : Nat} (hi : i < L.length) : (marks2 k L)[i]'(by rw [marks2_len]; exact hi) = marks (k + pre L i) L[i].length := by
  simp [marks2, hi]

/-- A matrix of the call's own: its rows lie apart from each other. -/
structure OutM (base : Nat) (w : World) (s : Sl) (L : List (List Int)) : Prop where
  ex : ∃ ss : List Sl, RowsD w base T.t_int T.t_sl_int s L ss
  i64 : ∀ r ∈ L, ∀ x ∈ r, I64 x
  rows : L.length ≤ 1048576
  small : ∀ r ∈ L, r.length ≤ 1048576

theorem OutM.own2 {base : Nat} {w : World} {s : Sl} {L : List (List Int)} (h : OutM base w s L) : Own2 w base T.t_int T.t_sl_int s L := by
  obtain ⟨ss, h1, h2, h3, _⟩ := h.ex
  exact ⟨ss, h1, h2, h3⟩
theorem OutM.rep {base : Nat} {w : World} {s : Sl} {L : List (List Int)} (h : OutM base w s L) : R w s L := h.own2.rep h.i64
theorem OutM.keep {base : Nat} {w w' : World} {s : Sl} {L : List (List Int)} (h : OutM base w s L) (hk : ∀ k, base ≤ k → k < w.heap.size → w'.heap[k]? = w.heap[k]?) : OutM base w' s L := by
  obtain ⟨ss, h1, h2, h3, h4⟩ := h.ex
  exact ⟨⟨ss, h1.keep fun k hb => hk k (h1.blk k hb).1 (h1.blk k hb).2, h2, fun i r l hr hl => (h3 i r l hr hl).keep fun k hb => hk k ((h3 i r l hr hl).blk k hb).1 ((h3 i r l hr hl).blk k hb).2, h4⟩, h.i64, h.rows, h.small⟩
theorem OutM.ext {base : Nat} {w w' : World} {s : Sl} {L : List (List Int)} (h : OutM base w s L) (hE : Ext w w') : OutM base w' s L := h.keep fun _ _ hk => hE.same hk
theorem OutM.chgR {base lo hi : Nat} {w w' : World} {s : Sl} {L : List (List Int)} (h : OutM base w s L) (hC : Chg w w' (fun b => lo ≤ b ∧ b < hi)) (hh : hi ≤ base) : OutM base w' s L :=
  h.keep fun k hk hlt => hC.block k hlt fun hD => by have := hD.2; omega
theorem OutM.nil (base : Nat) (w : World) : OutM base w ⟨none, 0, 0⟩ [] := ⟨⟨[], OwnL.nil _ _ _, rfl, fun i r l h => by simp at h, fun i j r q h => by simp at h⟩, by simp, by simp, by simp⟩
theorem OutM.low {base b : Nat} {w : World} {s : Sl} {L : List (List Int)} (h : OutM base w s L) (hb : b ≤ base) : OutM b w s L := by
  obtain ⟨ss, h1, h2, h3, h4⟩ := h.ex
  exact ⟨⟨ss, h1.low hb, h2, fun i r l hr hl => (h3 i r l hr hl).low hb, h4⟩, h.i64, h.rows, h.small⟩

theorem rows_apart {w w' : World} {base base' : Nat} {r q : Sl} {l m : List Int} (h : OwnL w base T.t_int r l) (_ : OwnL w base' T.t_int q m) (hd : ∀ k, r.v.ownBlock = some k → q.v.ownBlock ≠ some k) (hs : Step w w' q.v.ownBlock) : OwnL w' base T.t_int r l :=
  h.keep fun k hk => hs.block k (h.blk k hk).2 fun he => hd k hk he.symm

theorem mintss_of {w : World} {base : Nat} {s : Sl} {L : List (List Int)} (h : Own2 w base T.t_int T.t_sl_int s L) (hl : L.length ≤ 1048576) (hll : ∀ r ∈ L, r.length ≤ 1048576) : MIntSS w s base w.heap.size := by
  obtain ⟨ss, h1, h2, h3⟩ := h
  refine ⟨ss, h1, by omega, fun r hr => ?_⟩
  obtain ⟨i, hi, rfl⟩ := List.mem_iff_getElem.1 hr
  have hiL : i < L.length := by omega
  have hO := h3 i ss[i] L[i] (by simp [hi]) (by simp [hiL])
  refine ⟨mint_of hO (hll _ (List.getElem_mem hiL)), fun b hb he => ?_⟩
  obtain ⟨c1, e1⟩ := hO.type (blkOf_own hO hb)
  obtain ⟨c2, e2⟩ := h1.type he
  rw [e1] at e2
  exact absurd (Obj.cells.inj (Option.some.inj e2)).2.1 (by decide)

theorem MIntSS.chg {w w' : World} {s : Sl} {lo hi : Nat} (h : MIntSS w s lo hi) (hS : Shp w w') {l2 h2 : Nat} (hC : Chg w w' (fun b => l2 ≤ b ∧ b < h2)) (hlo : h2 ≤ lo) : MIntSS w' s lo hi := by
  obtain ⟨ss, h1, h3, h4⟩ := h.ex
  exact ⟨ss, h1.chg hC fun b hb hD => by have := (h1.blk b hb).1; have := hD.2; omega, h3, fun r hr => ⟨(h4 r hr).1.shp hS, (h4 r hr).2⟩⟩
theorem MIntSS.ext {w w' : World} {s : Sl} {lo hi : Nat} (h : MIntSS w s lo hi) (hE : Ext w w') : MIntSS w' s lo hi := by
  obtain ⟨ss, h1, h3, h4⟩ := h.ex
  exact ⟨ss, h1.ext hE, h3, fun r hr => ⟨(h4 r hr).1.ext hE, (h4 r hr).2⟩⟩

end Go.Proofs.YtoeaoinedidbiaaGreat
