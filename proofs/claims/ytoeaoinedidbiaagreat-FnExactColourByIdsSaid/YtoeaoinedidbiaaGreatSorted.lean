/- slices.AppendSeq(nil, slices.Values(s)), slices.Collect, slices.Sorted at []int. The walk of the loop is turned from the kit's worked texts (a loop over slices.Values; the shelf's slices.Collect). -/
import Derived.Maps.AppendAt
import Derived.Test.YtoeaoinedidbiaaGreatValues
import Derived.Test.YtoeaoinedidbiaaGreatColl
namespace Go.Proofs.YtoeaoinedidbiaaGreat
open Go Go.RowKit Go.Shelf Go.Proofs

attribute [local go_sem] Oper.semAt_some

theorem boxCell {W : World} {B : Nat} {v : Value} {t : TypeId} (h : W.heap[B]? = some (.cells #[v] t (0, 0))) : W.cell? ⟨B, 0, none⟩ = some v ∧ W.frozen? ⟨B, 0, none⟩ = false := by
  constructor
  · simp [World.cell?, h]
  · simp [World.frozen?, h]

theorem setCell_box {W : World} {B : Nat} {u v : Value} {t : TypeId} (h : W.heap[B]? = some (.cells #[u] t (0, 0))) : (W.setCell ⟨B, 0, none⟩ v).heap[B]? = some (.cells #[v] t (0, 0)) := by
  simp [World.setCell, Array.getElem?_modify, h]

theorem rowNe {W : World} {base : Nat} {e : TypeId} {size : Nat} {v : Value} {k : Nat} {xs : List Value} (h : W.ownsRow base e size v k xs) {j : Nat} {o : Obj} (hj : W.heap[j]? = some o) (hno : ∀ cur, o ≠ .cells cur e (0, 0)) :
    v.ownBlock = none ∨ v.ownBlock ≠ some j := by
  rcases h.2 with ⟨rfl, _⟩ | ⟨g, cap, cur, rfl, _, hg, _⟩
  · exact .inl rfl
  · refine .inr fun e' => ?_
    cases e'
    rw [hg] at hj
    exact hno cur (by cases hj; rfl)

theorem rowAbides {W W' : World} {row : Option Nat} {base : Nat} {e : TypeId} {size : Nat} {v : Value} {k : Nat} {xs : List Value} (h : W.ownsRow base e size v k xs) (hg : W.grownBy W' row)
    (hr : ∀ r, row = some r → ∃ o : Obj, W.heap[r]? = some o ∧ o.isCells = false) : W'.ownsRow base e size v k xs := by
  refine h.kept hg ?_
  cases row with
  | none => cases hv : v.ownBlock <;> simp
  | some r =>
    obtain ⟨o, ho, hc⟩ := hr r rfl
    exact rowNe h ho (fun cur e' => by subst e'; simp [Obj.isCells] at hc)

/-- Between two rounds: the box holds a slice that owns what has come so far, in a block of the call's own. -/
def ApAt (base Bs : Nat) (ss : List Int) (W : World) : Prop :=
  ∃ v, W.heap[Bs]? = some (.cells #[v] 23 (0, 0)) ∧ W.ownsRow base 3 1 v ss.length (ss.map (Value.int .i64))

theorem apAt_own (base Bs : Nat) : Go.Own (ApAt base Bs) := fun ss A B row ⟨v, hv, ho⟩ hg hr => by
  refine ⟨v, ?_, rowAbides ho hg hr⟩
  refine (hg.block Bs (Array.getElem?_eq_some_iff.1 hv).1 (fun e => ?_)).trans hv
  obtain ⟨o, h1, h2⟩ := hr Bs e.symm
  rw [hv] at h1; cases h1; simp [Obj.isCells] at h2

theorem infoI : (Tryz.prog.info? 3).map (fun i => (i.zero, i.size, i.bytes)) = some (some (.int .i64 0), 1, 8) := by kernel_rfl

open Go.GX

theorem intsIn_of {w : World} {s : Sl} {l : List Int} (h : R w s l) : IntsIn w.heap.size w s.v l := by
  obtain ⟨h1, h2, h3⟩ := h
  cases ha : s.a with
  | none =>
    have : l = [] := by
      cases l with
      | nil => rfl
      | cons x r => obtain ⟨a, _, e, _⟩ := h3 0 x rfl; rw [ha] at e; cases e
    subst this
    refine .inl ⟨s.cap, ?_, rfl⟩
    simp only [Sl.v, ha, h1]; rfl
  | some a =>
    have hcell : ∀ j, j < l.length → w.cell? (a.add j) = some (.int .i64 (l[j]?.getD 0)) := fun j hj => by
      obtain ⟨a', cs, e, _, hr, hcs⟩ := h3 j l[j] (List.getElem?_eq_getElem hj)
      rw [ha] at e; cases e
      have := hcs 0 (.int .i64 l[j]) (by rw [hr.1]; rfl)
      simp only [List.getElem?_eq_getElem hj, Option.getD_some]
      simpa [Rep.sz] using this
    refine .inr ⟨a, s.cap, ?_, fun h0 => ?_, hcell⟩
    · simp only [Sl.v, ha, h1]
    · have := hcell 0 h0
      exact cell_lt this



end Go.Proofs.YtoeaoinedidbiaaGreat
