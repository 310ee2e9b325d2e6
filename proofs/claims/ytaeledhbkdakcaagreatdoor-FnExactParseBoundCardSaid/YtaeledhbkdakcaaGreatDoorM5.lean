/- Own texts, merged: Drop, Reduce, WalkS3, WalkS4, WalkS5, Prob, RootI1, ParseRo, TxtRows, Delete, Compact, RowFun, RSort, RowSort, Trod, Open, ProbIn, EdgeCol, Fault, SplitPure, MapPure, Solution, Map, Product, ElimPure. -/
import Derived.Test.YtaeledhbkdakcaaGreatDoorM4
import Derived.Shelf.LaysM
import Derived.Shelf.LaysC
import Derived.Ground.Names2Prog
import Derived.Ground.SlgnProg
import Derived.Ground.SlsfProg
import Derived.Shelf.SlSortCmp.Insertion
import Derived.Shelf.SlSortCmp.SiftDown1
import Derived.Shelf.SlSortCmp.HeapSort1
import Derived.Shelf.SlSortCmp.Insertion1
import Derived.Shelf.SlSortCmp.Median1
import Derived.Shelf.SlSortCmp.Pivot1
import Derived.Shelf.SlSortCmp.ReverseRange1
import Derived.Shelf.SlSortCmp.PartialInsertion1
import Derived.Shelf.SlSortCmp.PartitionEqual1
import Derived.Shelf.SlSortCmp.Partition1
import Derived.Shelf.SlSortCmp.Pdq1
import Derived.Shelf.SlSortCmp.Whole1
import Derived.Shelf.SlSortCmp.NoneTotal
import Derived.Test.YtaeledhbkdakcaaGreatDoorProg
import Derived.Deep.Slices
import Derived.Lib.SmallJoins
import Derived.OpenShut
import Derived.ShutString
import Derived.ChangeOld
import Derived.Carry
import Derived.ProofKit
set_option linter.unusedVariables false
section
/- The least number that is free, and the rounds that drop a colour: DropColour, both sides. -/
namespace Go.Proofs.YtaeledhbkdakcaaGreatDoor
open Go.GX Go.RowKit
set_option maxRecDepth 100000

/-- The least number that is not in a list. -/
def mex (l : List Int) : Nat := ((List.range (l.length + 1)).find? fun (u : Nat) => !l.contains (u : Int)).getD 0

theorem mex_le (l : List Int) : mex l ≤ l.length := by
  unfold mex
  cases h : (List.range (l.length + 1)).find? (fun (u : Nat) => !l.contains (u : Int)) with
  | none => simp
  | some c => have := List.mem_of_find?_eq_some h; simp at this; simp; omega

theorem coThrough_ok {w : World} {s t : Sl} {l m : List Int} (hl : R w s l) (hm : R w t m) (hin : ∀ x ∈ m, ∃ u : Nat, x = u ∧ u < l.length) (hml : m.length ≤ 1048576) :
    Calls Tryz.prog F.s_coThrough #[s.v, t.v] w (Ret [.at .sl] fun (r : Sl) w' => Ext w w' ∧ OwnL w' w.heap.size T.t_int r (m.map fun u => l.getD u.toNat 0)) := by
  refine C_s_coThrough ?_
  unfold V_s_coThrough
  rw [hm.len]
  refine ⟨IN2 m.length fun i out w' => Ext w w' ∧ OwnL w' w.heap.size T.t_int out ((m.take i).map fun u => l.getD u.toNat 0), MN2 m.length, IN2_zero ⟨Ext.refl _, by simpa using OwnL.nil _ _ _⟩, ?_⟩
  rintro out _ w2 ⟨i, rfl, hi, hE, hO⟩
  intros
  replace hl := hl.ext hE
  replace hm := hm.ext hE
  refine cond_dec (fun hlt => ?_) (fun hge => ?_)
  · have hi' : i < m.length := by omega
    refine hm.ixI hi' fun q _ hc => LD_int hc ?_
    obtain ⟨u, hu, hul⟩ := hin _ (List.getElem_mem hi')
    rw [hu]
    refine hl.ixI hul fun q h64 hc => LD_int hc ?_
    refine RUN_lit1 (α := Int) slt_int l[u] rfl (by decide) fun r w5 hE5 hO5 => ?_
    replace hE := hE.ext hE5
    replace hO := hO.ext hE5
    refine RUN_append (α := Int) slt_int hO hE.size_le (hO5.rep (by intro z hz; simp at hz; subst hz; exact h64)).any (by simp; omega) (by simp [maxLen]; omega) fun r' w6 hO6 hs6 => ?_
    refine IN2_next hm.le hi' ⟨hs6.ext0 hE (fun k hk => (hO.blk k hk).1), ?_⟩
    rw [map_take_succ hi', hu]
    simpa [hul] using hO6
  · have : i = m.length := by omega
    subst this
    exact ⟨hE, by simpa using hO⟩

theorem near_len {n : Net} (hg : Good n) (l : List Int) {v : Nat} (hv : v < n.ends.length) : (nearOf n.ends l v).length ≤ 6 := by
  rw [near_adj, List.length_map, adj_len hg hv]; exact hg.deg hv

/-! ### Dropping -/

def dropAt (E : Ends) (l : List Int) (c : Int) (v : Nat) : Int := if l.getD v 0 = c then mex (nearOf E l v) else l.getD v 0
def dropOf (E : Ends) (l : List Int) (c : Int) : List Int := (List.range l.length).map (dropAt E l c)

theorem dropOf_len (E : Ends) (l : List Int) (c : Int) : (dropOf E l c).length = l.length := by simp [dropOf]

theorem dropAt_I64 {n : Net} (hg : Good n) {l : List Int} (hl : ∀ x ∈ l, I64 x) (hlen : l.length = n.ends.length) (c : Int) : ∀ v < l.length, I64 (dropAt n.ends l c v) := by
  intro v hv
  unfold dropAt
  split
  · have := mex_le (nearOf n.ends l v)
    have := near_len hg l (v := v) (by omega)
    unfold I64; omega
  · simp [hv]; exact hl _ (List.getElem_mem hv)

theorem dropOf_I64 {n : Net} (hg : Good n) {l : List Int} (hl : ∀ x ∈ l, I64 x) (hlen : l.length = n.ends.length) (c : Int) : ∀ x ∈ dropOf n.ends l c, I64 x := by
  intro x hx
  obtain ⟨v, hv, rfl⟩ := List.mem_map.1 hx
  exact dropAt_I64 hg hl hlen c v (by simpa using hv)

structure DropAsked (n : Net) (l : List Int) (c : Int) : Prop where
  good : Good n
  proper : Proper n l
  whole : inR c 0 1000000000000 = true

end Go.Proofs.YtaeledhbkdakcaaGreatDoor
end

section
/- Degrees, greatest numbers, palettes; GreedyReduce, both sides. -/
namespace Go.Proofs.YtaeledhbkdakcaaGreatDoor
open Go.GX Go.RowKit
set_option maxRecDepth 100000

/-! ### The greatest number -/

def most2 (a b : Int) : Int := if a > b then a else b
def mostOf (l : List Int) : Int := l.foldl most2 0

theorem mostOf_spec (l : List Int) : 0 ≤ mostOf l ∧ (∀ x ∈ l, x ≤ mostOf l) ∧ (mostOf l = 0 ∨ mostOf l ∈ l) := by
  unfold mostOf
  have : ∀ (l : List Int) (m : Int), 0 ≤ m → 0 ≤ l.foldl most2 m ∧ m ≤ l.foldl most2 m ∧ (∀ x ∈ l, x ≤ l.foldl most2 m) ∧ (l.foldl most2 m = m ∨ l.foldl most2 m ∈ l) := by
    intro l
    induction l with
    | nil => intro m hm; simp; exact hm
    | cons y r ih =>
      intro m hm
      have hy : m ≤ most2 m y ∧ y ≤ most2 m y ∧ (most2 m y = m ∨ most2 m y = y) := by
        unfold most2; split <;> omega
      obtain ⟨h1, h2, h3, h4⟩ := ih (most2 m y) (by omega)
      rw [List.foldl_cons]
      refine ⟨h1, by omega, fun x hx => ?_, ?_⟩
      · rcases List.mem_cons.1 hx with rfl | hx
        · omega
        · exact h3 x hx
      · rcases h4 with h4 | h4
        · rcases hy.2.2 with h5 | h5
          · left; rw [h4, h5]
          · right; rw [h4, h5]; simp
        · right; exact List.mem_cons_of_mem _ h4
  obtain ⟨h1, _, h3, h4⟩ := this l 0 (by omega)
  exact ⟨h1, h3, h4⟩

theorem l1Most_ok (a b : Int) (w : World) : Calls Tryz.prog F.s_l1Most #[.int .i64 a, .int .i64 b] w (Ret [.at (.int .i64)] fun (r : Int) w' => r = most2 a b ∧ w = w') := by
  refine C_s_l1Most ?_
  unfold V_s_l1Most most2
  exact cond_dec (fun h => ⟨by rw [if_pos h], rfl⟩) (fun h => ⟨by rw [if_neg h], rfl⟩)

/-! ### Degrees -/

def degsOf (E : Ends) : List Int := E.map fun r => (r.length : Int)

/-! ### What is asked -/

structure PalAsked (n : Net) (l : List Int) (k a : Int) : Prop where
  good : Good n
  pal : 1 ≤ k ∧ k ≤ 1000000000000
  bound : 0 ≤ a ∧ a ≤ 6
  proper : Proper n l
  all : AllIn l 0 (k - 1)
  degs : mostOf (degsOf n.ends) ≤ a

theorem PalAsked.deg {n : Net} {l : List Int} {k a : Int} (h : PalAsked n l k a) {v : Nat} (hv : v < n.ends.length) : (n.ends[v].length : Int) ≤ a := by
  have := (mostOf_spec (degsOf n.ends)).2.1 (n.ends[v].length : Int) (List.mem_map.2 ⟨_, List.getElem_mem hv, rfl⟩)
  have := h.degs
  omega

/-! ### Dropping the greatest colours -/

/-- What a list of colours must be for the rounds. -/
structure ColsOk (n : Net) (a : Int) (l : List Int) : Prop where
  good : Good n
  len : l.length = n.ends.length
  nn : ∀ x ∈ l, 0 ≤ x
  i64 : ∀ x ∈ l, I64 x
  deg : ∀ v, (hv : v < n.ends.length) → (n.ends[v].length : Int) ≤ a

theorem dropOf_mem {n : Net} {a : Int} {l : List Int} (h : ColsOk n a l) {c : Int} : ∀ x ∈ dropOf n.ends l c, (0 ≤ x ∧ x ≤ a) ∨ (x ∈ l ∧ x ≠ c) := fun x hx => by
  obtain ⟨v, hv, rfl⟩ := List.mem_map.1 hx
  have hv' : v < l.length := by simpa using hv
  have hve : v < n.ends.length := by rw [← h.len]; exact hv'
  unfold dropAt
  split
  · left
    have h1 := mex_le (nearOf n.ends l v)
    have h2 : (nearOf n.ends l v).length = n.ends[v].length := by rw [near_adj, List.length_map, adj_len h.good hve]
    have := h.deg v hve
    omega
  · rename_i hne
    right
    simp [hv'] at hne ⊢
    exact hne

theorem ColsOk.drop {n : Net} {a : Int} {l : List Int} (h : ColsOk n a l) (c : Int) : ColsOk n a (dropOf n.ends l c) :=
  ⟨h.good, by rw [dropOf_len]; exact h.len, fun x hx => by
    rcases dropOf_mem h x hx with h1 | h1
    · exact h1.1
    · exact h.nn x h1.1, dropOf_I64 h.good h.i64 h.len c, h.deg⟩

theorem PalAsked.cols {n : Net} {l : List Int} {k a : Int} (h : PalAsked n l k a) (hi : ∀ x ∈ l, I64 x) : ColsOk n a l :=
  ⟨h.good, h.proper.1, fun x hx => (h.all x hx).1, hi, fun v hv => h.deg hv⟩

end Go.Proofs.YtaeledhbkdakcaaGreatDoor
end

section
/- Walk problems, the reference: depths within a component. -/
namespace Go.Proofs.YtaeledhbkdakcaaGreatDoor
open Go.GX Go.RowKit
set_option maxRecDepth 100000

/-! ### Depths -/

structure DepOk (E : Nat → Nat → Prop) (n a : Nat) (D : List Int) : Prop where
  len : D.length = n
  val : ∀ b (h : b < D.length), D[b] = -1 ∨ ∃ k : Nat, k ≤ n ∧ D[b] = k ∧ Wk E k a b
  all : ∀ b (h : b < D.length), Comp E a b → 0 ≤ D[b]
  zero : ∀ h : a < D.length, D[a] = 0

theorem DepOk.I64 {E : Nat → Nat → Prop} {n a : Nat} {D : List Int} (h : DepOk E n a D) : ∀ x ∈ D, -1 ≤ x ∧ x ≤ n := fun x hx => by
  obtain ⟨b, hb, rfl⟩ := List.mem_iff_getElem.1 hx
  rcases h.val b hb with he | ⟨j, hj, he, _⟩
  · rw [he]; omega
  · rw [he]; omega
/-- How many labels have a depth. -/
def cntN (D : List Int) : Nat := (D.filter fun x => decide (0 ≤ x)).length
theorem cntN_le (D : List Int) : cntN D ≤ D.length := List.length_filter_le _ _
theorem cntN_set : ∀ {D : List Int} {v : Nat} {k : Int} (hv : v < D.length), D[v] < 0 → 0 ≤ k → cntN (D.set v k) = cntN D + 1
  | x :: D, 0, k, _, h1, h2 => by
    have h1' : ¬ 0 ≤ x := by have : x < 0 := h1; omega
    simp [cntN, h1', h2]
  | x :: D, v + 1, k, hv, h1, h2 => by
    have ih := cntN_set (D := D) (v := v) (k := k) (by simpa using hv) (by simpa using h1) h2
    unfold cntN at ih ⊢
    rw [List.set_cons_succ, List.filter_cons, List.filter_cons]
    split
    · rw [List.length_cons, List.length_cons, ih]
    · exact ih

structure DepV (E : Nat → Nat → Prop) (n a : Nat) (D : List Int) : Prop where
  len : D.length = n
  val : ∀ b (h : b < D.length), D[b] = -1 ∨ ∃ k : Nat, k < cntN D ∧ D[b] = k ∧ Wk E k a b
  zero : ∀ h : a < D.length, D[a] = 0
theorem DepV.I64 {E : Nat → Nat → Prop} {n a : Nat} {D : List Int} (h : DepV E n a D) (hn : n ≤ 1000) : ∀ x ∈ D, I64 x := fun x hx => by
  obtain ⟨b, hb, rfl⟩ := List.mem_iff_getElem.1 hx
  have hc := cntN_le D
  have hl := h.len
  rcases h.val b hb with he | ⟨j, hj, he, _⟩
  · rw [he]; unfold GX.I64; omega
  · rw [he]; unfold GX.I64; omega
/-- The arcs of a list lead from depths to depths. -/
def DepCl (A : List (List Int)) (C D : List Int) : Prop := ∀ u v : Nat, arcE A u v → (v : Int) ∈ C → ∀ (hu : u < D.length) (hv : v < D.length), 0 ≤ D[u] → 0 ≤ D[v]

theorem DepV.step {E : Nat → Nat → Prop} {n a u v : Nat} {D : List Int} (h : DepV E n a D) (hu : u < D.length) (hv : v < D.length) (h0 : 0 ≤ D[u]) (hneg : D[v] < 0) (he : E u v) : DepV E n a (D.set v (D[u] + 1)) ∧ cntN (D.set v (D[u] + 1)) = cntN D + 1 := by
  have hc := cntN_set hv hneg (k := D[u] + 1) (by omega)
  refine ⟨⟨by rw [List.length_set]; exact h.len, fun b hb => ?_, fun hh => ?_⟩, hc⟩
  · rw [List.getElem_set, hc]
    by_cases hbv : v = b
    · subst hbv
      rw [if_pos rfl]
      rcases h.val u hu with h1 | ⟨k, hk, h1, hw⟩
      · omega
      · exact .inr ⟨k + 1, by omega, by rw [h1]; push_cast; rfl, u, hw, he⟩
    · rw [if_neg hbv]
      rcases h.val b (by rw [List.length_set] at hb; exact hb) with h1 | ⟨k, hk, h1, hw⟩
      · exact .inl h1
      · exact .inr ⟨k, by omega, h1, hw⟩
  · rw [List.getElem_set]
    by_cases hav : v = a
    · subst hav
      have := h.zero hv
      omega
    · rw [if_neg hav]; exact h.zero (by rw [List.length_set] at hh; exact hh)

theorem DepCl.all {p : WPr} {n r : Nat} {C D : List Int} (hg : WGood p) (hn : p.labels.toNat = n) (hm : ∀ b : Nat, (b : Int) ∈ C ↔ b < n ∧ Comp (arcE p.arcs) r b) (hl : D.length = n) (h0 : ∀ h : r < D.length, D[r] = 0) (hcl : DepCl p.arcs C D) : ∀ b (h : b < D.length), Comp (arcE p.arcs) r b → 0 ≤ D[b] := by
  have go : ∀ k b, Wk (arcE p.arcs) k r b → Comp (arcE p.arcs) r b → ∀ h : b < D.length, 0 ≤ D[b] := by
    intro k
    induction k with
    | zero => intro b hw _ h; cases hw; rw [h0 h]; omega
    | succ k ih =>
      rintro b ⟨c, hw, he⟩ hc h
      have hcc : Comp (arcE p.arcs) r c := by
        obtain ⟨_, j, q⟩ := hc
        exact ⟨⟨k, hw⟩, _, (Wk.one he).cat q⟩
      have hr2 := hg.rel he
      have hcl2 : c < D.length := by omega
      exact hcl c b he ((hm b).2 ⟨by omega, hc⟩) hcl2 h (ih c hw hcc hcl2)
  intro b h hc
  obtain ⟨⟨k, hw⟩, _⟩ := id hc
  exact go k b hw hc h

end Go.Proofs.YtaeledhbkdakcaaGreatDoor
end

section
/- Walk problems, the reference: components, flexible labels. -/
namespace Go.Proofs.YtaeledhbkdakcaaGreatDoor
open Go.GX Go.RowKit
set_option maxRecDepth 100000

structure WRec where
  a : Sl
  p : Int
  b : Sl

instance : Rep WRec where
  sz := 3
  rep _ _ cs r := cs = [r.a.v, .int .i64 r.p, r.b.v]
  len h := by rw [h]; rfl
  agr _ h := h
  weak _ h := h
instance : RepP WRec := ⟨by decide⟩
theorem one3w (x : Sl) (y : Int) (z : Sl) : ∀ v ∈ [x.v, Value.int .i64 y, z.v], v.oneCell' = true := by intro v hv; simp at hv; rcases hv with rfl | rfl | rfl <;> rfl
instance : Flat WRec where
  cells r := [r.a.v, .int .i64 r.p, r.b.v]
  ok _ := True
  size _ := rfl
  one r v hv := one3w r.a r.p r.b v hv
  repOk _ := rfl
  ofRep h := ⟨h, trivial⟩

/-- What is known of the parts. -/
structure PartIs (E : Nat → Nat → Prop) (r : Nat) (P : Int) : Prop where
  ex : ∃ q : Nat, P = q ∧ q ≤ 100 ∧ (q = 1 ↔ Flex E r)
structure PartsO (base : Nat) (w : World) (s : Sl) (E : Nat → Nat → Prop) (n : Nat) (rs : List Nat) : Prop where
  ex : ∃ recs : List WRec, OwnL w base T.t_s_waPart s recs ∧ recs.length = rs.length ∧ ∀ j (h1 : j < recs.length) (h2 : j < rs.length), SlR (fun b => base ≤ b ∧ s.v.ownBlock ≠ some b) w recs[j].a (compL E n rs[j]) ∧ PartIs E rs[j] recs[j].p

theorem PartsO.nil (base : Nat) (w : World) (E : Nat → Nat → Prop) (n : Nat) : PartsO base w ⟨none, 0, 0⟩ E n [] := ⟨[], OwnL.nil _ _ _, rfl, fun j h1 => by simp at h1⟩
theorem PartsO.keep {base : Nat} {w w' : World} {s : Sl} {E : Nat → Nat → Prop} {n : Nat} {rs : List Nat} (h : PartsO base w s E n rs) {D : Nat → Prop} (hC : Chg w w' D) (hD : ∀ b, base ≤ b → ¬ D b) : PartsO base w' s E n rs := by
  obtain ⟨recs, hO, hl, hr⟩ := h.ex
  exact ⟨recs, hO.keep fun b hb => hC.block b (hO.blk b hb).2 (hD b (hO.blk b hb).1), hl, fun j h1 h2 => ⟨(hr j h1 h2).1.chg hC fun b hb _ => hD b hb.1, (hr j h1 h2).2⟩⟩

theorem slr_ixW {D : Nat → Prop} {w : World} {s : Sl} {l : List Int} (h : SlR D w s l) {i : Nat} (hi : i < l.length) {K : Addr → Prop} (hk : ∀ p, D p.block → w.cell? p = some (.int .i64 l[i]) → K p) : IX s i 1 K := by
  obtain ⟨a, cs, ha, hD, ⟨rfl, _⟩, hc⟩ := h.2.2 i l[i] (by simp [hi])
  have hl := h.1
  exact ⟨a, ha, by omega, by omega, hk _ (by rw [add_block]; exact hD) (hc 0 _ rfl)⟩

end Go.Proofs.YtaeledhbkdakcaaGreatDoor
end

section
/- Walk problems, the reference: flexible labels. -/
namespace Go.Proofs.YtaeledhbkdakcaaGreatDoor
open Go.GX Go.RowKit
set_option maxRecDepth 100000

end Go.Proofs.YtaeledhbkdakcaaGreatDoor
end

section
/- Problems: their configurations looked up, what is asked of them, both sides. -/
namespace Go.Proofs.YtaeledhbkdakcaaGreatDoor
open Go.GX Go.RowKit
set_option maxRecDepth 100000

/-! ### Looking up -/

theorem mid_nat {a b : Nat} (h : a + b ≤ 9000000000000000000) : IntKind.i64.wrap (shrI .u64 (IntKind.u64.wrap (IntKind.i64.wrap ((a : Int) + (b : Int)))) 1) = (((a + b) / 2 : Nat) : Int) := by
  rw [wrap_of (n := (a : Int) + (b : Int)) (by omega) (by omega), show (a : Int) + (b : Int) = ((a + b : Nat) : Int) by omega, wrap_u64 (by omega) (by omega)]
  have h1 := shr_nat .u64 (a + b) 1 (by decide)
  have e : shrI .u64 ((a + b : Nat) : Int) 1 = (((a + b) / 2 : Nat) : Int) := by simpa using h1
  rw [e, wrap_of (by omega) (by omega)]

theorem search_at {w : World} {s t : Sl} {L : List (List Int)} {T0 : List Int} (h : R w s L) (ht : R w t T0) (hr : ∀ j i (_ : i < j) (hj : j < L.length), cmpL (L[i]'(by omega)) L[j] < 0) (hl : L.length ≤ 1048576) :
    Calls Tryz.prog F.slices_BinarySearchFunc_sl_sl_int_sl_int_sl_int #[s.v, t.v, .func (.func F.slices_Compare_sl_int_int) #[] #[]] w (Ret [.at (.int .i64), .at .bool] fun (i : Int) (b : Bool) w' => b = decide (T0 ∈ L) ∧ (T0 ∈ L → ∃ k : Nat, i = k ∧ ∃ hk : k < L.length, L[k] = T0) ∧ w = w') := by
  refine C_slices_BinarySearchFunc_sl_sl_int_sl_int_sl_int ?_
  unfold V_slices_BinarySearchFunc_sl_sl_int_sl_int_sl_int
  rw [h.len]
  have hcmp : ∀ {s' : Sl} {a : List Int}, R w s' a → CALLV Tryz.prog (.func (.func F.slices_Compare_sl_int_int) #[] #[]) #[s'.v, t.v] w (Ret [.at (.int .i64)] fun (r : Int) w' => r = cmpL a T0 ∧ w = w') := fun hs => CALLV_mk (by kernel_rfl) (compare_ok hs ht)
  refine ⟨fun (i j : Int) w' => w = w' ∧ ∃ a b : Nat, i = a ∧ j = b ∧ a ≤ b ∧ b ≤ L.length ∧ (∀ k (hk : k < L.length), k < a → cmpL L[k] T0 < 0) ∧ ∀ k (hk : k < L.length), b ≤ k → 0 ≤ cmpL L[k] T0, fun i j _ => (j - i).toNat,
    ⟨rfl, 0, L.length, rfl, rfl, by omega, by omega, fun k hk h => by omega, fun k hk h => by omega⟩, ?_⟩
  rintro _ _ _ ⟨rfl, a, b, rfl, rfl, hab, hbl, h1, h2⟩
  intros
  refine cond_dec (fun hlt => ⟨by omega, ?_⟩) (fun hge => ?_)
  · rw [mid_nat (by omega)]
    generalize hm : (a + b) / 2 = m
    have hmL : m < L.length := by omega
    refine h.ixL hmL fun q s1 hR1 hc => LD_sl hc ?_
    refine callv (hcmp hR1.any) ?_
    rintro _ _ ⟨rfl, rfl⟩
    refine cond_dec (fun hneg => ?_) (fun hnn => ?_)
    · rw [wrap_of (n := (m : Int) + 1) (by omega) (by omega)]
      refine ⟨⟨rfl, m + 1, b, by omega, rfl, by omega, hbl, fun k hk hka => ?_, h2⟩, by simp only; omega⟩
      by_cases he : k = m
      · subst he; exact hneg
      · exact cmpL_trans (hr m k (by omega) hmL) hneg
    · refine ⟨⟨rfl, a, m, rfl, rfl, by omega, by omega, h1, fun k hk hmk => ?_⟩, by simp only; omega⟩
      by_cases he : k = m
      · subst he; omega
      · by_cases hc0 : cmpL L[k] T0 < 0
        · have := cmpL_trans (hr k m (by omega) hk) hc0
          omega
        · omega
  · have hab' : a = b := by omega
    subst hab'
    have hmem : ∀ (hk : a < L.length), T0 ∈ L ↔ cmpL L[a] T0 = 0 := fun hk => by
      constructor
      · intro hT
        obtain ⟨m, hm, hme⟩ := List.mem_iff_getElem.1 hT
        have hm0 : cmpL L[m] T0 = 0 := cmpL_zero.2 hme
        rcases Nat.lt_trichotomy m a with hlt | heq | hgt
        · have := h1 m hm hlt; omega
        · subst heq; exact hm0
        · have h3 := hr m a hgt hm
          have h4 := h2 a hk (Nat.le_refl _)
          rw [hme] at h3
          omega
      · intro hz
        rw [← cmpL_zero.1 hz]; exact List.getElem_mem hk
    refine cond_dec (fun hlt => ?_) (fun hge2 => ?_)
    · have hk : a < L.length := by omega
      refine h.ixL hk fun q s1 hR1 hc => LD_sl hc ?_
      refine callv (hcmp hR1.any) ?_
      rintro _ _ ⟨rfl, rfl⟩
      refine ⟨?_, fun hT => ⟨a, rfl, hk, cmpL_zero.1 ((hmem hk).1 hT)⟩, rfl⟩
      rw [Bool.eq_iff_iff, decide_eq_true_eq, hmem hk, beq_iff_eq]
    · have : ¬ T0 ∈ L := fun hT => by
        obtain ⟨m, hm, hme⟩ := List.mem_iff_getElem.1 hT
        have := h1 m hm (by omega)
        rw [hme, cmpL_zero.2 rfl] at this
        omega
      refine ⟨?_, fun hT => absurd hT this, rfl⟩
      simp [this]

theorem search_ok {w : World} {s t : Sl} {L : List (List Int)} {T0 : List Int} (h : R w s L) (ht : R w t T0) (hr : ∀ j i (_ : i < j) (hj : j < L.length), cmpL (L[i]'(by omega)) L[j] < 0) (hl : L.length ≤ 1048576) :
    Calls Tryz.prog F.slices_BinarySearchFunc_sl_sl_int_sl_int_sl_int #[s.v, t.v, .func (.func F.slices_Compare_sl_int_int) #[] #[]] w (Ret [.at (.int .i64), .at .bool] fun (_ : Int) (b : Bool) w' => b = decide (T0 ∈ L) ∧ w = w') := by
  refine call (search_at h ht hr hl) ?_
  rintro i b w' ⟨h1, _, h2⟩
  exact ⟨h1, h2⟩

theorem hasConfiguration_ok {w : World} {s t : Sl} {L : List (List Int)} {l : List Int} (h : R w s L) (ht : R w t l) (hr : ∀ j i (_ : i < j) (hj : j < L.length), cmpL (L[i]'(by omega)) L[j] < 0) (hl : L.length ≤ 1048576) (hll : l.length ≤ 1048576) :
    Calls Tryz.prog F.i_hasConfiguration #[s.v, t.v] w (Ret [.at .bool] fun (b : Bool) w' => b = decide (sortI l ∈ L) ∧ Ext w w') := by
  refine C_i_hasConfiguration ?_
  unfold V_i_hasConfiguration
  refine values_ok fun w1 hE1 hc1 => ?_
  refine call (sorted_ok hc1 (ht.ext hE1) hll) ?_
  rintro r w2 ⟨hE2, hO2⟩
  have hE := hE1.trans hE2
  refine call (search_ok (h.ext hE) (hO2.rep (sortI_I64 (flat_ok ht))).any hr hl) ?_
  rintro i b _ ⟨rfl, rfl⟩
  exact ⟨rfl, hE⟩

/-! ### The reference's looking up -/

theorem l1Same_ok {w : World} {s t : Sl} {a b : List Int} (ha : R w s a) (hb : R w t b) :
    Calls Tryz.prog F.s_l1Same #[s.v, t.v] w (Ret [.at .bool] fun (r : Bool) w' => r = decide (a = b) ∧ Ext w w') := by
  refine C_s_l1Same ?_
  unfold V_s_l1Same
  rw [ha.len, hb.len]
  refine cond_ne (fun hne => ⟨?_, Ext.refl _⟩) (fun heq => ?_)
  · have : a ≠ b := fun he => hne (by rw [he])
    simp [this]
  have hl : a.length = b.length := by have heq' : ((a.length : Nat) : Int) = (b.length : Nat) := heq; omega
  refine ⟨IN a.length fun i w' => Ext w w' ∧ ∀ u < i, a[u]? = b[u]?, MN a.length, IN_zero ⟨Ext.refl _, fun u hu => absurd hu (by omega)⟩, ?_⟩
  rintro _ w1 ⟨i, rfl, hi, hE, hI⟩
  intros
  refine cond_dec (fun hlt => ?_) (fun hge => ?_)
  · have hi' : i < a.length := by omega
    have hi2 : i < b.length := by omega
    refine (ha.ext hE).ixI hi' fun q _ hc => LD_int hc ?_
    refine (hb.ext hE).ixI hi2 fun q _ hc => LD_int hc ?_
    intro w2 hE2
    refine cond_ne (fun hne => ⟨?_, hE.trans hE2⟩) (fun heq => IN_next ha.le hi' ⟨hE.trans hE2, all_succ hI ?_⟩)
    · have : a ≠ b := fun he => by subst he; exact hne rfl
      simp [this]
    · have heq' : a[i] = b[i] := heq
      simp [hi', hi2, heq']
  · have : i = a.length := by omega
    subst this
    have : a = b := by
      apply List.ext_getElem?
      intro u
      by_cases hu : u < a.length
      · exact hI u hu
      · rw [List.getElem?_eq_none (by omega), List.getElem?_eq_none (by omega)]
    exact ⟨by simp [this], hE⟩

theorem prHas_ok {w : World} {s t : Sl} {L : List (List Int)} {l : List Int} (h : R w s L) (ht : R w t l) :
    Calls Tryz.prog F.s_prHas #[s.v, t.v] w (Ret [.at .bool] fun (b : Bool) w' => b = decide (l ∈ L) ∧ Ext w w') := by
  refine C_s_prHas ?_
  unfold V_s_prHas
  rw [h.len]
  refine ⟨IN L.length fun i w' => Ext w w' ∧ l ∉ L.take i, MN L.length, IN_zero ⟨Ext.refl _, by simp⟩, ?_⟩
  rintro _ w1 ⟨i, rfl, hi, hE, hI⟩
  intros
  refine cond_dec (fun hlt => ?_) (fun hge => ?_)
  · have hi' : i < L.length := by omega
    refine (h.ext hE).ixL hi' fun q s1 hR1 hc => LD_sl hc ?_
    refine call (l1Same_ok (ht.ext hE) hR1.any) ?_
    rintro _ w2 ⟨rfl, hE2⟩
    refine cond_dec (fun he => ⟨?_, hE.trans hE2⟩) (fun hne => IN_next h.le hi' ⟨hE.trans hE2, not_mem_take_succ hi' hI fun he => hne he.symm⟩)
    have : l ∈ L := by rw [he]; exact List.getElem_mem hi'
    simp [this]
  · have : i = L.length := by omega
    subst this
    rw [List.take_length] at hI
    exact ⟨by simp [hI], hE⟩

/-- Sorting by inserting. -/
theorem swap_perm {l : List Int} {k : Nat} (hk : k + 1 < l.length) : ((l.set (k + 1) l[k]).set k l[k + 1]).Perm l := by
  have hl : l = l.take k ++ l[k] :: l[k + 1] :: l.drop (k + 2) := by
    rw [← List.drop_eq_getElem_cons hk, ← List.drop_eq_getElem_cons (show k < l.length by omega), List.take_append_drop]
  have hlen : (l.take k).length = k := by simp; omega
  generalize l[k] = x at *
  generalize l[k + 1] = y at *
  generalize hA : l.take k = A at *
  generalize hB : l.drop (k + 2) = B at *
  rw [hl, List.set_append_right _ _ (by omega), hlen, show k + 1 - k = 1 by omega, List.set_cons_succ, List.set_cons_zero, List.set_append_right _ _ (by omega), hlen, Nat.sub_self, List.set_cons_zero]
  exact List.Perm.append_left _ (List.Perm.swap _ _ _)

def InsInv (M : List Int) (i k : Nat) : Prop := ∀ u v (_ : u < v) (hv : v < M.length), v ≤ i → v ≠ k → M[u]'(by omega) ≤ M[v]

theorem ins_swap {M : List Int} {i k : Nat} (hk : k + 1 < M.length) (hi : i < M.length) (hki : k + 1 ≤ i) (h : InsInv M i (k + 1)) (hgt : M[k] > M[k + 1]) : InsInv ((M.set (k + 1) M[k]).set k M[k + 1]) i k := by
  intro u v huv hv hvi hvk
  have hvM : v < M.length := by simpa using hv
  rw [List.getElem_set, List.getElem_set, List.getElem_set, List.getElem_set]
  by_cases h1 : k = u
  · subst h1
    rw [if_pos rfl, if_neg (by omega)]
    by_cases h2 : k + 1 = v
    · subst h2; rw [if_pos rfl]; omega
    · rw [if_neg h2]
      exact h (k + 1) v (by omega) hvM hvi (by omega)
  · rw [if_neg h1, if_neg (by omega : ¬ k = v)]
    by_cases h3 : k + 1 = u
    · subst h3
      rw [if_pos rfl, if_neg (by omega)]
      exact h k v (by omega) hvM hvi (by omega)
    · rw [if_neg h3]
      by_cases h2 : k + 1 = v
      · subst h2; rw [if_pos rfl]
        exact h u k (by omega) (by omega) (by omega) (by omega)
      · rw [if_neg h2]
        exact h u v huv hvM hvi (by omega)

theorem ins_done {M : List Int} {i k : Nat} (hi : i < M.length) (hki : k ≤ i) (h : InsInv M i k) (hle : k = 0 ∨ ∃ j, ∃ hj : j + 1 < M.length, k = j + 1 ∧ M[j] ≤ M[j + 1]) : InsInv M i (i + 1) := by
  intro u v huv hv hvi _
  by_cases hvk : v = k
  · subst hvk
    rcases hle with h0 | ⟨j, hj, rfl, hjl⟩
    · omega
    · rcases Nat.lt_or_eq_of_le (Nat.le_of_lt_succ huv) with h1 | h1
      · exact Int.le_trans (h u j h1 (by omega) (by omega) (by omega)) hjl
      · subst h1; exact hjl
  · exact h u v huv hv hvi hvk

theorem prSorted_ok {w : World} {s : Sl} {l : List Int} (h : R w s l) (hl : l.length ≤ 1048576) :
    Calls Tryz.prog F.s_prSorted #[s.v] w (Ret [.at .sl] fun (r : Sl) w' => Ext w w' ∧ OwnL w' w.heap.size T.t_int r (sortI l)) := by
  refine C_s_prSorted ?_
  unfold V_s_prSorted
  refine call (l1Own_ok h hl) ?_
  rintro r w1 ⟨hE1, hO1⟩
  have hok := flat_ok h
  rw [hO1.1]
  refine ⟨IN l.length fun i w' => Ext w w' ∧ ∃ M : List Int, OwnL w' w.heap.size T.t_int r M ∧ M.Perm l ∧ InsInv M i i, MN l.length, IN_zero ⟨hE1, l, hO1, List.Perm.refl _, fun u v huv hv hvi hne => absurd hvi (by omega)⟩, ?_⟩
  rintro _ w2 ⟨i, rfl, hi, hE2, M, hO2, hp2, hI2⟩
  intros
  refine cond_dec (fun hlt => ?_) (fun hge => ?_)
  rotate_left
  · have hil : i = l.length := by omega
    subst hil
    have hsort : M.Pairwise (· ≤ ·) := List.pairwise_iff_getElem.2 fun u v hu hv huv => hI2 u v huv hv (by have := hp2.length_eq; omega) (by have := hp2.length_eq; omega)
    have he : M = sortI l := (hp2.trans (sortI_perm l).symm).eq_of_pairwise (fun a b _ _ h1 h2 => Int.le_antisymm h1 h2) hsort (sortI_sorted l)
    rw [he] at hO2
    exact ⟨hE2, hO2⟩
  have hi' : i < l.length := by omega
  refine ⟨fun (k : Int) w' => ∃ j : Nat, k = j ∧ j ≤ i ∧ Ext w w' ∧ ∃ M : List Int, OwnL w' w.heap.size T.t_int r M ∧ M.Perm l ∧ InsInv M i j, fun k _ => k.toNat, ⟨i, rfl, Nat.le_refl _, hE2, M, hO2, hp2, hI2⟩, ?_⟩
  rintro _ w3 ⟨j, rfl, hj, hE3, M3, hO3, hp3, hI3⟩
  intros
  have hlen3 := hp3.length_eq
  have hnext : ∀ w', Ext w3 w' → InsInv M3 i (i + 1) → IN l.length (fun i w' => Ext w w' ∧ ∃ M : List Int, OwnL w' w.heap.size T.t_int r M ∧ M.Perm l ∧ InsInv M i i) (IntKind.i64.wrap ((i : Int) + 1)) w' ∧ MN l.length (IntKind.i64.wrap ((i : Int) + 1)) w' < MN l.length (i : Int) w2 := fun w' hE' hI' => by
    refine IN_next (by omega) hi' ⟨hE3.trans hE', M3, hO3.ext hE', hp3, fun u v huv hv hvi hne => hI' u v huv hv (by omega) (by omega)⟩
  refine cond_dec (fun hpos => ?_) (fun hnp => fun w5 hE5 => ?_)
  rotate_left
  · have : j = 0 := by omega
    subst this
    exact hnext w5 hE5 (ins_done (by omega) (by omega) hI3 (.inl rfl))
  obtain ⟨m, rfl⟩ : ∃ m, j = m + 1 := ⟨j - 1, by omega⟩
  have hm1 : m + 1 < M3.length := by omega
  have hok3 : ∀ x ∈ M3, I64 x := fun x hx => hok x (hp3.mem_iff.1 hx)
  rw [show ((m + 1 : Nat) : Int) - 1 = (m : Int) by omega, wrap_of (n := (m : Int)) (by omega) (by omega)]
  have hR3 := (hO3.rep hok3).any
  refine hR3.ixI (i := m) (by omega) fun q _ hc => LD_int hc ?_
  refine hR3.ixI hm1 fun q _ hc => LD_int hc ?_
  intro w4 hE4
  refine cond_dec (fun hgt => ?_) (fun hng => ?_)
  · have hO4 := hO3.ext hE4
    have hR4 := hR3.ext hE4
    refine hR4.ixI hm1 fun q _ hc => LD_int hc ?_
    refine hR4.ixI (i := m) (by omega) fun q _ hc => LD_int hc ?_
    refine IX_own hO4 hm1 rfl fun q hq => ?_
    refine ST_own hO4 hm1 hq M3[m] rfl fun w8 hO8 hs8 => ?_
    refine IX_own hO8 (i := m) (by simp; omega) rfl fun q2 hq2 => ?_
    refine ST_own hO8 (by simp; omega) hq2 M3[m + 1] rfl fun w9 hO9 hs9 => ?_
    have hEw := hE3.trans hE4
    have hE8 := hs8.ext0 hEw (fun k hk => (hO4.blk k hk).1)
    have hE9 := hs9.ext0 hE8 (fun k hk => (hO8.blk k hk).1)
    exact ⟨⟨m, rfl, by omega, hE9, _, hO9, (swap_perm hm1).trans hp3, ins_swap hm1 (by omega) (by omega) hI3 hgt⟩, by simp only; omega⟩
  · exact hnext w4 hE4 (ins_done (by omega) hj hI3 (.inr ⟨m, hm1, rfl, by omega⟩))

end Go.Proofs.YtaeledhbkdakcaaGreatDoor
end

section
/- Rooted problems: valid ones, both sides; lines with labels of a set. -/
namespace Go.Proofs.YtaeledhbkdakcaaGreatDoor
open Go.GX Go.RowKit
set_option maxRecDepth 100000

structure RRo (w : World) (s : Sl) (p : RPr) : Prop where
  lab : I64 p.labels
  chi : I64 p.children
  lines : R w s p.lines
theorem RRo.ext {w w' : World} {s : Sl} {p : RPr} (h : RRo w s p) (hE : Ext w w') : RRo w' s p := ⟨h.lab, h.chi, h.lines.ext hE⟩

/-- A line as it is asked. -/
def RowGood (p : RPr) (x : List Int) : Prop := (x.length : Int) = p.children + 1 ∧ AllIn x 0 (p.labels - 1) ∧ x.tail.Pairwise (· ≤ ·)
theorem RoGood.of {p : RPr} (h1 : 1 ≤ p.labels ∧ p.labels ≤ 8) (h2 : 1 ≤ p.children ∧ p.children ≤ 3) (h3 : ∀ u (hu : u < p.lines.length), RowGood p p.lines[u]) (h4 : ∀ u (hu : u + 1 < p.lines.length), cmpL p.lines[u] p.lines[u + 1] < 0) : RoGood p :=
  have key : ∀ x ∈ p.lines, RowGood p x := fun x hx => by
    obtain ⟨u, hu, rfl⟩ := List.mem_iff_getElem.1 hx
    exact h3 u hu
  ⟨h1, h2, ⟨fun x hx => (key x hx).1, fun x hx => (key x hx).2.1, h4⟩, fun x hx => (key x hx).2.2⟩
theorem RoGood.row {p : RPr} (h : RoGood p) {u : Nat} (hu : u < p.lines.length) : RowGood p p.lines[u] := ⟨h.up.len _ (List.getElem_mem hu), h.up.lab _ (List.getElem_mem hu), h.sort _ (List.getElem_mem hu)⟩

end Go.Proofs.YtaeledhbkdakcaaGreatDoor
end

section
/- Texts of rooted problems: written and read, both sides. -/
namespace Go.Proofs.YtaeledhbkdakcaaGreatDoor
open Go.GX Go.RowKit
open Go.Lib (decDigits)
set_option maxRecDepth 100000

def wRooted : List UInt8 := [114, 111, 111, 116, 101, 100]
def wLine : List UInt8 := [108, 105, 110, 101]
def roLines (p : RPr) : List (List UInt8) := lineS wRooted [p.labels, p.children] :: p.lines.map (lineS wLine)
def roTextS (p : RPr) : List UInt8 := linesS (roLines p)

theorem wRooted_32 : (32 : UInt8) ∉ wRooted := by decide
theorem wLine_32 : (32 : UInt8) ∉ wLine := by decide
theorem roLines_no10 (p : RPr) : ∀ x ∈ roLines p, (10 : UInt8) ∉ x := by
  intro x hx
  rcases List.mem_cons.1 hx with rfl | hx
  · exact lineS_no10 (by decide)
  · obtain ⟨y, _, rfl⟩ := List.mem_map.1 hx
    exact lineS_no10 (by decide)

/-- Numbers of a rooted problem's text. -/
def Six (l : List Int) : Prop := ∀ x ∈ l, -1 ≤ x ∧ x < 1000000
theorem RoGood.head {p : RPr} (h : RoGood p) : Six [p.labels, p.children] := by
  intro x hx
  have h1 := h.lab
  have h2 := h.chi
  simp only [List.mem_cons, List.not_mem_nil, or_false] at hx
  rcases hx with rfl | rfl <;> omega
theorem RoGood.six {p : RPr} (h : RoGood p) : ∀ x ∈ p.lines, Six x := by
  intro x hx y hy
  have h1 := h.lab
  have h2 := h.up.lab x hx y hy
  omega

theorem stars_of {ns : List Int} (h : Six ns) : StarsOf (ns.map numS) ns := ⟨rfl, h⟩

theorem rows_inj : ∀ {L M : List (List Int)} {w : List UInt8}, (32 : UInt8) ∉ w → (∀ x ∈ L, Six x) → (∀ x ∈ M, Six x) → L.map (lineS w) = M.map (lineS w) → L = M
  | [], [], _, _, _, _, _ => rfl
  | [], _ :: _, _, _, _, _, h => by cases h
  | _ :: _, [], _, _, _, _, h => by cases h
  | l :: L, m :: M, w, hw, h1, h2, h => by
    obtain ⟨e1, e2⟩ := List.cons.inj h
    have e3 := congrArg (splitB 32) e1
    rw [lineS_words hw, lineS_words hw] at e3
    have e4 := (List.cons.inj e3).2
    have hl := stars_of (h1 l (by simp))
    have hm := stars_of (h2 m (by simp))
    rw [e4] at hl
    rw [hl.unique hm, rows_inj hw (fun x hx => h1 x (by simp [hx])) (fun x hx => h2 x (by simp [hx])) e2]

theorem roText_inj {p q : RPr} (hp : RoGood p) (hq : RoGood q) (h : roTextS p = roTextS q) : p = q := by
  have e := congrArg (splitB 10) h
  unfold roTextS at e
  rw [linesS_split (roLines_no10 p), linesS_split (roLines_no10 q)] at e
  obtain ⟨e1, e2⟩ := List.cons.inj (List.append_inj' e rfl).1
  have e3 := congrArg (splitB 32) e1
  rw [lineS_words wRooted_32, lineS_words wRooted_32] at e3
  have e4 := (List.cons.inj e3).2
  have hl := stars_of hp.head
  rw [e4] at hl
  have e5 := hl.unique (stars_of hq.head)
  have e6 := rows_inj wLine_32 hp.six hq.six e2
  obtain ⟨a, b, L⟩ := p
  obtain ⟨c, d, M⟩ := q
  simp only [List.cons.injEq, and_true] at e5
  obtain ⟨rfl, rfl⟩ := e5
  cases e6; rfl

/-! ### Written -/

theorem linesS_snoc (L : List (List UInt8)) (x : List UInt8) : linesS (L ++ [x]) = linesS L ++ (x ++ [10]) := by simp [linesS]
theorem linesS_len {n : Nat} : ∀ {L : List (List UInt8)}, (∀ x ∈ L, x.length + 1 ≤ n) → (linesS L).length ≤ n * L.length
  | [], _ => by simp [linesS]
  | x :: L, h => by
    have h1 := h x (by simp)
    have h2 := linesS_len (L := L) fun y hy => h y (by simp [hy])
    simp only [linesS, List.flatMap_cons, List.length_append, List.length_cons, List.length_nil] at h2 ⊢
    rw [Nat.mul_succ]; omega

/-- Rows of few numbers. -/
def Few (L : List (List Int)) : Prop := L.length ≤ 10000000 ∧ ∀ x ∈ L, x.length ≤ 10 ∧ Six x
theorem few_len {L : List (List Int)} {w : List UInt8} (h : Few L) (hw : w.length ≤ 20) : ∀ x ∈ L.map (lineS w), x.length + 1 ≤ 100 := by
  intro x hx
  obtain ⟨y, hy, rfl⟩ := List.mem_map.1 hx
  have h1 := h.2 y hy
  have h2 := lineS_len w (l := y) fun z hz => (h1.2 z hz).2
  omega
theorem RoGood.few {p : RPr} (h : RoGood p) (hl : p.lines.length ≤ 10000000) : Few p.lines :=
  ⟨hl, fun x hx => ⟨by have := h.up.len x hx; have := h.chi; omega, h.six x hx⟩⟩
end Go.Proofs.YtaeledhbkdakcaaGreatDoor
end

section
/- Rows of numbers written as lines, one behind the other: the loops that do it; a strings.Builder of the call's own. -/
namespace Go.Proofs.YtaeledhbkdakcaaGreatDoor
open Go.GX Go.RowKit
open Go.Lib (decDigits)
set_option maxRecDepth 100000

/-- A loop's dead values. -/
theorem dropV2 {α : Type} {w : World} {a : α} {C : (α → Int → World → Prop) → (α → Int → World → Nat) → α → Int → World → Prop} (h : ∃ (I : α → Int → World → Prop) (m : α → Int → World → Nat), I a 0 w ∧ ∀ (l : α) (x : Int) w5, I l x w5 → C I m l x w5) :
    ∃ (I : α → Int → World → Prop) (m : α → Int → World → Nat), I a 0 w ∧ ∀ (l : α) (x : Int) w5, I l x w5 → ∀ _ : Value, C I m l x w5 := by
  obtain ⟨I, m, h1, h2⟩ := h
  exact ⟨I, m, h1, fun l x w5 h _ => h2 l x w5 h⟩
theorem dropV1 {w : World} {C : (Int → World → Prop) → (Int → World → Nat) → Int → World → Prop} (h : ∃ (I : Int → World → Prop) (m : Int → World → Nat), I 0 w ∧ ∀ (x : Int) w5, I x w5 → C I m x w5) :
    ∃ (I : Int → World → Prop) (m : Int → World → Nat), I 0 w ∧ ∀ (x : Int) w5, I x w5 → ∀ _ : Value, C I m x w5 := by
  obtain ⟨I, m, h1, h2⟩ := h
  exact ⟨I, m, h1, fun x w5 h _ => h2 x w5 h⟩

theorem appLoop {w0 w : World} (g : GP w0) {b : Nat} {t out0 : Sl} {L : List (List Int)} {wd : List UInt8} {done : List (List UInt8)} (hL : R w0 t L) (hF : Few L) (hwd : wd.length ≤ 20) (hE : Ext w0 w) (hO : OwnL w b T.t_string out0 (done.map mkS)) (hb : w0.heap.size ≤ b ∧ b ≤ w.heap.size) (hd : done.length ≤ 30000000)
    {K : Sl → World → Prop} (hk : ∀ out w', Ext w0 w' → OwnL w' b T.t_string out ((done ++ L.map (lineS wd)).map mkS) → b ≤ w'.heap.size → K out w') :
    ∃ (I : Sl → Int → World → Prop) (m : Sl → Int → World → Nat), I out0 0 w ∧ ∀ (lines : Sl) (x : Int) w5, I lines x w5 →
      cond (decide ((x : Int) < t.len)) (
      IX t x 1 fun (pa : Addr) =>
      LD [.sl] pa w5 fun (y : Sl) =>
      Calls Tryz.prog F.i_wordsLine #[.string (mkS wd), y.v] w5 (Ret [.at .str] fun (z : ByteArray) w6 =>
      RUN Tryz.prog (.at .sl) (Instr.buildSlice T.t_sl_string 1 #[(0, .string z)]) w6 fun (u : Sl) w7 =>
      RUN Tryz.prog (.at .sl) (bsem .append #[T.t_sl_string, T.t_sl_string] T.t_sl_string #[lines.v, u.v]) w7 fun (r : Sl) w8 =>
      I r (IntKind.i64.wrap (x + 1)) w8 ∧ m r (IntKind.i64.wrap (x + 1)) w8 < m lines x w5)) (
      K lines w5) := by
  rw [hL.len]
  refine ⟨IN2 L.length fun i (out : Sl) w' => Ext w0 w' ∧ b ≤ w'.heap.size ∧ OwnL w' b T.t_string out ((done ++ (L.take i).map (lineS wd)).map mkS), MN2 L.length, IN2_zero ⟨hE, hb.2, by simpa using hO⟩, ?_⟩
  rintro out _ w5 ⟨i, rfl, hi, hE5, hbw, hO5⟩
  refine cond_dec (fun hlt => ?_) (fun hge => ?_)
  · have hi' : i < L.length := by omega
    have hrow := hF.2 L[i] (List.getElem_mem hi')
    have hF1 := hF.1
    refine (hL.ext hE5).ixL hi' fun q t ht hc => LD_sl hc ?_
    refine call (wordsLine_ok (wd := wd) (g.ext hE5) ht.any hrow.2 (by omega) (by omega)) ?_
    rintro _ w6 ⟨rfl, hE6⟩
    refine RUN_lit1 (α := ByteArray) slt_str (mkS (lineS wd L[i])) rfl (by decide) fun z w7 hE7 hO7 => ?_
    have hOb := (hO5.ext hE6).ext hE7
    have hz6 := hE6.size_le
    have hz7 := hE7.size_le
    have hln : ((done ++ (L.take i).map (lineS wd)).map mkS).length = done.length + i := by simp [Nat.min_eq_left hi]
    refine RUN_append (α := ByteArray) slt_str hOb (by omega) (hO7.rep (strs_ok _)).any (by rw [hln, List.length_singleton]; omega) (by rw [hln, List.length_singleton]; unfold maxLen; omega) fun r w8 hO8 hs8 => ?_
    have hz8 := hs8.size
    refine IN2_next (by omega) hi' ⟨hs8.ext0 ((hE5.trans hE6).trans hE7) fun k hk => by have := (hOb.blk k hk).1; omega, by omega, ?_⟩
    have e : (done ++ (L.take (i + 1)).map (lineS wd)).map mkS = (done ++ (L.take i).map (lineS wd)).map mkS ++ [mkS (lineS wd L[i])] := by
      simp only [List.take_succ_eq_append_getElem hi', List.map_append, List.map_cons, List.map_nil, List.append_assoc]
    rw [e]; exact hO8
  · have : i = L.length := by omega
    subst this
    rw [List.take_length] at hO5
    exact hk _ _ hE5 hO5 hbw

theorem catLoop {w0 w : World} {t : Sl} {L : List (List Int)} {wd done : List UInt8} (hL : R w0 t L) (hF : Few L) (hwd : wd.length ≤ 20) (hE : Ext w0 w) (hd : done.length ≤ 100000000000)
    {K : ByteArray → World → Prop} (hk : ∀ w', Ext w0 w' → K (mkS (done ++ linesS (L.map (lineS wd)))) w') :
    ∃ (I : ByteArray → Int → World → Prop) (m : ByteArray → Int → World → Nat), I (mkS done) 0 w ∧ ∀ (out : ByteArray) (x : Int) w5, I out x w5 →
      cond (decide ((x : Int) < t.len)) (
      IX t x 1 fun (pa : Addr) =>
      LD [.sl] pa w5 fun (y : Sl) =>
      Calls Tryz.prog F.s_maLine #[.string (mkS wd), y.v] w5 (Ret [.at .str] fun (z : ByteArray) w6 =>
      z.size + (mkS [10]).size ≤ 9223372036854775807 ∧ (
      out.size + (z ++ mkS [10]).size ≤ 9223372036854775807 ∧ (
      I (out ++ (z ++ mkS [10])) (IntKind.i64.wrap (x + 1)) w6 ∧ m (out ++ (z ++ mkS [10])) (IntKind.i64.wrap (x + 1)) w6 < m out x w5)))) (
      K out w5) := by
  rw [hL.len]
  refine ⟨IN2 L.length fun i (out : ByteArray) w' => Ext w0 w' ∧ out = mkS (done ++ linesS ((L.take i).map (lineS wd))), MN2 L.length, IN2_zero ⟨hE, by simp [linesS]⟩, ?_⟩
  rintro _ _ w5 ⟨i, rfl, hi, hE5, rfl⟩
  refine cond_dec (fun hlt => ?_) (fun hge => ?_)
  · have hi' : i < L.length := by omega
    have hrow := hF.2 L[i] (List.getElem_mem hi')
    have hF1 := hF.1
    refine (hL.ext hE5).ixL hi' fun q t ht hc => LD_sl hc ?_
    refine call (maLine_ok (wd := wd) ht.any hrow.2 (by omega) (by omega)) ?_
    rintro _ w6 ⟨rfl, hE6⟩
    have hll := few_len hF hwd
    have hlb := linesS_len (n := 100) (L := (L.take i).map (lineS wd)) fun x hx => hll x (by
      obtain ⟨y, hy, rfl⟩ := List.mem_map.1 hx
      exact List.mem_map_of_mem (List.mem_of_mem_take hy))
    rw [List.length_map, List.length_take, Nat.min_eq_left hi] at hlb
    have hl1 := hll (lineS wd L[i]) (List.mem_map_of_mem (List.getElem_mem hi'))
    refine ⟨by rw [mkS_size, mkS_size]; simp only [List.length_cons, List.length_nil]; omega, ?_⟩
    rw [mkS_app]
    refine ⟨by rw [mkS_size, mkS_size]; simp only [List.length_append, List.length_cons, List.length_nil]; omega, IN2_next (by omega) hi' ⟨hE5.trans hE6, ?_⟩⟩
    rw [mkS_app, List.take_succ_eq_append_getElem hi', List.map_append, List.map_singleton, linesS_snoc, List.append_assoc]
  · have : i = L.length := by omega
    subst this
    rw [List.take_length]
    exact hk _ hE5

/-! ### A builder of the call's own -/

theorem Srt.lays166 : Go.Proofs.Lays.n166 Tryz.prog Srt.lays156_ren := { Srt.lays156 with }

/-- A builder that holds bytes. -/
def Bld (w : World) (B : Nat) (p : Addr) (l : List UInt8) : Prop := ∃ b, p = ⟨b, 0, none⟩ ∧ Go.Lib.IsBuilder (Srt.lays156_ren.t 72) (Srt.lays156_ren.t 5) B b (Go.Lib.byteCells l) w

theorem builderAt_ext {T e : TypeId} {B b : Nat} {p : Value} {bs : List Value} {w w' : World} (h : Go.Lib.BuilderAt T e B b p bs w) (hE : Ext w w') : Go.Lib.BuilderAt T e B b p bs w' := by
  have hlt := h.lt
  obtain ⟨hB, v, hb, hown, hne⟩ := h
  refine ⟨hB, v, by rw [hE.same hlt]; exact hb, ?_, hne⟩
  exact hown.kept (row := some b) ⟨hE.os, hE.tape, hE.output, hE.size, fun k hk _ => hE.same hk⟩ (.inr hne)
theorem Bld.ext {w w' : World} {B : Nat} {p : Addr} {l : List UInt8} (h : Bld w B p l) (hE : Ext w w') : Bld w' B p l := by
  obtain ⟨b, rfl, h | h⟩ := h
  · exact ⟨b, rfl, .inl (builderAt_ext h hE)⟩
  · exact ⟨b, rfl, .inr (builderAt_ext h hE)⟩

theorem Bld.fresh {w : World} {B : Nat} {p : Addr} (hb : Box w p T.t_strings_Builder [.pointer none, .slice none 0 0]) (hB : B ≤ p.block) : Bld w B p [] := by
  obtain ⟨b, o, sp⟩ := p
  obtain ⟨h1, h2, h3⟩ := hb
  simp only at h1 h2 h3 hB
  subst h1; subst h2
  exact ⟨b, rfl, .inl ⟨hB, .slice none 0 0, h3, World.ownsRow_nil w B _ 1, by simp [Value.ownBlock]⟩⟩

theorem WriteString_ok {w : World} {B : Nat} {p : Addr} {l m : List UInt8} (h : Bld w B p l) (hB : B ≤ w.heap.size) (hl : l.length + m.length ≤ 140737488355328) :
    Calls Tryz.prog F.ptr_strings_Builder_WriteString #[.pointer (some p), .string (mkS m)] w (Ret [.at (.int .i64), .at .val] fun (_ : Int) (_ : Value) w' => Below B w w' ∧ Bld w' B p (l ++ m)) := by
  obtain ⟨b, rfl, h⟩ := h
  refine (Any.Builder_WriteString Srt.lays166 Srt.Builder_Extra_156 B b (Go.Lib.byteCells l) (mkS m) w h (by unfold Go.Lib.byteCells; rw [List.length_map, mkS_size]; exact hl) hB).mono ?_
  rintro e w' ⟨rfl, h1, h2⟩
  refine ⟨h2, b, rfl, .inr ?_⟩
  have : Go.Lib.byteCells (l ++ m) = Go.Lib.byteCells l ++ Go.Lib.strCells (mkS m) := by
    unfold Go.Lib.byteCells Go.Lib.strCells
    rw [List.map_append, mkS_data]
  rw [this]; exact h1

theorem BString_ok {w : World} {B : Nat} {p : Addr} {l : List UInt8} (h : Bld w B p l) (hB : B ≤ w.heap.size) :
    Calls Tryz.prog F.ptr_strings_Builder_String #[.pointer (some p)] w (Ret [.at .str] fun (r : ByteArray) w' => r = mkS l ∧ Below B w w') := by
  obtain ⟨b, rfl, h⟩ := h
  refine (Srt.Builder_String_any B b l w h hB).mono ?_
  rintro e w' ⟨rfl, h2⟩
  exact ⟨rfl, h2⟩

end Go.Proofs.YtaeledhbkdakcaaGreatDoor
end

section
/- slices.DeleteFunc at []int. -/
namespace Go.Proofs.YtaeledhbkdakcaaGreatDoor
open Go.GX Go.RowKit
set_option maxRecDepth 100000

end Go.Proofs.YtaeledhbkdakcaaGreatDoor
end

section
/- slices.Compact at []int; the number of different elements of a list. -/
namespace Go.Proofs.YtaeledhbkdakcaaGreatDoor
open Go.GX Go.RowKit
set_option maxRecDepth 100000

/-- What slices.Compact keeps of the first b elements. -/
def compTo (l : List Int) : Nat → List Int
  | 0 => []
  | b + 1 => compTo l b ++ (if b = 0 ∨ l.getD b 0 ≠ l.getD (b - 1) 0 then [l.getD b 0] else [])

theorem mem_take_succ {l : List Int} {b : Nat} (hb : b < l.length) {x : Int} : x ∈ l.take (b + 1) ↔ x ∈ l.take b ∨ x = l.getD b 0 := by
  rw [List.take_succ_eq_append_getElem hb, List.mem_append, List.mem_singleton, List.getD_eq_getElem?_getD, List.getElem?_eq_getElem hb]; rfl

theorem compTo_mem {l : List Int} : ∀ {b : Nat}, b ≤ l.length → ∀ x, x ∈ compTo l b ↔ x ∈ l.take b
  | 0, _, x => by simp [compTo]
  | b + 1, hb, x => by
    rw [mem_take_succ (by omega), compTo, List.mem_append, compTo_mem (by omega)]
    split
    · simp
    · rename_i h
      simp only [not_or, Decidable.not_not] at h
      constructor
      · rintro (h1 | h1)
        · exact .inl h1
        · simp at h1
      · rintro (h1 | rfl)
        · exact .inl h1
        · left
          rw [h.2, List.getD_eq_getElem?_getD, List.getElem?_eq_getElem (by omega)]
          exact List.mem_take_iff_getElem.2 ⟨b - 1, by omega, rfl⟩

theorem compTo_sorted {l : List Int} (hs : l.Pairwise (· ≤ ·)) : ∀ {b : Nat}, b ≤ l.length → (compTo l b).Pairwise (· < ·)
  | 0, _ => by simp [compTo]
  | b + 1, hb => by
    rw [compTo]
    split
    · rename_i h
      refine List.pairwise_append.2 ⟨compTo_sorted hs (by omega), by simp, ?_⟩
      intro x hx y hy
      simp at hy
      subst hy
      obtain ⟨j, hj, rfl⟩ := List.mem_take_iff_getElem.1 ((compTo_mem (by omega) _).1 hx)
      have hb' : b < l.length := by omega
      have hj' : j < b := by omega
      rcases h with h | h
      · omega
      · rw [List.getD_eq_getElem?_getD, List.getElem?_eq_getElem hb', List.getD_eq_getElem?_getD, List.getElem?_eq_getElem (by omega)] at h
        simp only [Option.getD_some] at h
        rw [List.getElem?_eq_getElem hb', Option.getD_some]
        have h1 : l[b - 1] ≤ l[b] := List.pairwise_iff_getElem.1 hs _ _ _ _ (by omega)
        have h2 : l[j] ≤ l[b - 1] := by
          by_cases e : j = b - 1
          · subst e; exact Int.le_refl _
          · exact List.pairwise_iff_getElem.1 hs _ _ _ _ (by omega)
        omega
    · simpa using compTo_sorted hs (b := b) (by omega)

theorem slr_sub {α : Type} [RepP α] {D : Nat → Prop} {w : World} {s d : Sl} {l : List α} (h : SlR D w s l) {i : Nat} (hi : i ≤ l.length) (hd : d.len = s.len - i) (hc : d.cap = s.cap - i) (ha : i < s.len → d.a = s.a.map (·.add (i * Rep.sz α))) : SlR D w d (l.drop i) := by
  have h1 := h.1
  have h2 := h.2.1
  refine ⟨by simp; omega, by omega, fun j x hx => ?_⟩
  rw [List.getElem?_drop] at hx
  have hlt := (List.getElem?_eq_some_iff.1 hx).1
  obtain ⟨a, cs, e1, e2, e3, e4⟩ := h.2.2 (i + j) x hx
  refine ⟨a.add (i * Rep.sz α), cs, by rw [ha (by omega), e1]; rfl, by rw [add_block]; exact e2, e3, fun t v ht => ?_⟩
  rw [add_add, show i * Rep.sz α + (j * Rep.sz α + t) = (i + j) * Rep.sz α + t by rw [Nat.add_mul]; omega]
  exact e4 t v ht

theorem getD_eq {l : List Int} {i : Nat} (hi : i < l.length) : l.getD i 0 = l[i] := by
  rw [List.getD_eq_getElem?_getD, List.getElem?_eq_getElem hi]; rfl

theorem compact_ok {w : World} {base : Nat} {s : Sl} {l : List Int} (h : OwnL w base T.t_int s l) (hok : ∀ x ∈ l, I64 x) (hl : l.length ≤ 1048576) :
    Calls Tryz.prog F.slices_Compact_sl_int_int #[s.v] w (Ret [.at .sl] fun (r : Sl) w' => Chg w w' (oB s) ∧ OwnL w' base T.t_int r (compTo l l.length) ∧ r.a = s.a) := by
  refine C_slices_Compact_sl_int_int ?_
  unfold V_slices_Compact_sl_int_int
  have hsl := h.1
  have hr := h.rep hok
  have hall : ∀ b, 1 ≤ b → b ≤ l.length → (∀ j, 1 ≤ j → j < b → l.getD j 0 ≠ l.getD (j - 1) 0) → compTo l b = l.take b := by
    intro b
    induction b with
    | zero => intro h; omega
    | succ b ih =>
      intro _ hb hne
      rw [List.take_succ_eq_append_getElem (by omega), compTo, getD_eq (by omega)]
      by_cases h0 : b = 0
      · subst h0; simp [compTo]
      · rw [ih (by omega) (by omega) (fun j h1 h2 => hne j h1 (by omega)), if_pos (.inr (by have := hne b (by omega) (by omega); rwa [getD_eq (by omega)] at this))]
  rw [hsl]
  refine cond_dec (fun hlt => ?_) (fun hge => ?_)
  · refine ⟨Chg.refl _ _, ?_, rfl⟩
    have : compTo l l.length = l := by
      by_cases h0 : l.length = 0
      · rw [List.length_eq_zero_iff.1 h0]; rfl
      · rw [hall l.length (by omega) (Nat.le_refl _) (fun j h1 h2 => by omega), List.take_length]
    rw [this]; exact h
  · refine ⟨fun i w' => ∃ k : Nat, i = k ∧ 1 ≤ k ∧ k ≤ l.length ∧ Ext w w' ∧ ∀ j, 1 ≤ j → j < k → l.getD j 0 ≠ l.getD (j - 1) 0, fun i _ => l.length - i.toNat, ⟨1, rfl, by omega, by omega, Ext.refl _, fun j h1 h2 => by omega⟩, ?_⟩
    rintro _ w1 ⟨k, rfl, hk1, hkl, hE1, hne⟩
    intros
    refine cond_dec (fun hlt => ?_) (fun hge2 => ?_)
    · have hk : k < l.length := by omega
      refine (hr.ext hE1).ixI (i := k) hk fun q _ hc => LD_int hc ?_
      rw [wrap_of (by omega) (by omega)]
      have e1 : ((k : Int) - 1) = ((k - 1 : Nat) : Int) := by omega
      rw [e1]
      refine (hr.ext hE1).ixI (i := k - 1) (by omega) fun q _ hc => LD_int hc ?_
      intro w2 hE2
      refine cond_b (fun heq => ?_) (fun hneq => ?_)
      · have heq' : l[k] = l[k - 1] := by simpa using heq
        refine SLC_from' hr.2.1.1 (by omega) fun d hdl hdc hda => ?_
        have hck : compTo l (k + 1) = l.take k := by
          rw [compTo, hall k hk1 (by omega) hne, if_neg (by rw [getD_eq hk, getD_eq (by omega)]; simp only [not_or, Decidable.not_not]; exact ⟨by omega, heq'⟩), List.append_nil]
        refine ⟨fun i j w' => ∃ a b : Nat, i = a ∧ j = b ∧ 1 ≤ b ∧ k + b ≤ l.length ∧ a < k + b ∧ k ≤ a ∧ Chg w w' (oB s) ∧ ∃ X : List Int, OwnL w' base T.t_int s X ∧ X.length = l.length ∧ X.take a = compTo l (k + b) ∧ (compTo l (k + b)).length = a ∧ X.drop (k + b - 1) = l.drop (k + b - 1) ∧ ∀ x ∈ X, I64 x, fun _ j _ => l.length - j.toNat,
          ⟨k, 1, rfl, rfl, by omega, by omega, by omega, by omega, .of_ext (hE1.trans hE2), l, h.ext (hE1.trans hE2), rfl, hck.symm, by rw [hck]; simp; omega, rfl, hok⟩, ?_⟩
        rintro _ _ w3 ⟨a, b, rfl, rfl, hb1, hkb, hab, hka, hC, X, hO, hXl, hXa, hal, hXd, hXo⟩
        intros
        rw [hdl, hsl]
        have hXR := slr_sub (hO.rep hXo) (i := k) (by omega) (by rw [hdl]) hdc hda
        refine cond_dec (fun hlt2 => ?_) (fun hge3 => ?_)
        · have hb : k + b < l.length := by omega
          have hX1 : X[k + b]'(by omega) = l[k + b] := by
            have h1 : (X.drop (k + b - 1))[1]? = (l.drop (k + b - 1))[1]? := by rw [hXd]
            rw [List.getElem?_drop, List.getElem?_drop, show k + b - 1 + 1 = k + b by omega, List.getElem?_eq_getElem (by omega), List.getElem?_eq_getElem hb] at h1
            simpa using h1
          have hX0 : X[k + b - 1]'(by omega) = l[k + b - 1] := by
            have h1 : (X.drop (k + b - 1))[0]? = (l.drop (k + b - 1))[0]? := by rw [hXd]
            rw [List.getElem?_drop, List.getElem?_drop, Nat.add_zero, List.getElem?_eq_getElem (by omega), List.getElem?_eq_getElem (by omega)] at h1
            simpa using h1
          refine hXR.ixI (i := b) (by simp; omega) fun q _ hc => LD_int hc ?_
          rw [wrap_of (by omega) (by omega), show ((b : Int) - 1) = ((b - 1 : Nat) : Int) by omega]
          refine hXR.ixI (i := b - 1) (by simp; omega) fun q _ hc => LD_int hc ?_
          intro w4 hE4
          simp only [List.getElem_drop, show k + (b - 1) = k + b - 1 by omega, hX1, hX0]
          have hC4 := hC.trans (Chg.of_ext hE4)
          have hO4 := hO.ext hE4
          have hd2 : X.drop (k + b) = l.drop (k + b) := by
            have := congrArg (List.drop 1) hXd
            rwa [List.drop_drop, List.drop_drop, show k + b - 1 + 1 = k + b by omega] at this
          refine cond_b (fun hne2 => ?_) (fun heq2 => ?_)
          · have hne' : l[k + b] ≠ l[k + b - 1] := by simpa using hne2
            have hcs : compTo l (k + b + 1) = compTo l (k + b) ++ [l[k + b]] := by
              rw [compTo, if_pos (.inr (by rw [getD_eq hb, getD_eq (by omega)]; exact hne')), getD_eq hb]
            refine (hXR.ext hE4).ixI (i := b) (by simp; omega) fun q _ hc => LD_int hc ?_
            simp only [List.getElem_drop, hX1]
            refine IX_own hO4 (i := a) (by omega) rfl fun q hq => ?_
            refine ST_own hO4 (i := a) (by omega) hq l[k + b] rfl fun w5 hO5 hs5 => ?_
            rw [wrap_of (by omega) (by omega), wrap_of (by omega) (by omega)]
            refine ⟨⟨a + 1, b + 1, by omega, by omega, by omega, by omega, by omega, by omega, hC4.trans (.of_step hs5 fun k hk => hk), X.set a l[k + b], hO5, by simpa using hXl, ?_, ?_, ?_, ?_⟩, by show l.length - (_ : Int).toNat < l.length - (_ : Int).toNat; omega⟩
            · rw [show k + (b + 1) = k + b + 1 by omega, hcs, ← hXa, List.take_succ_eq_append_getElem (by simp; omega), List.take_set, List.set_eq_of_length_le (by simp; omega)]
              simp
            · rw [show k + (b + 1) = k + b + 1 by omega, hcs]; simp [hal]
            · rw [show k + (b + 1) - 1 = k + b by omega, List.drop_set_of_lt (by omega)]
              exact hd2
            · intro x hx
              rcases List.mem_or_eq_of_mem_set hx with h1 | h1
              · exact hXo x h1
              · rw [h1]; exact hok _ (List.getElem_mem hb)
          · have heq' : l[k + b] = l[k + b - 1] := by simpa using heq2
            have hcs : compTo l (k + b + 1) = compTo l (k + b) := by
              rw [compTo, if_neg (by rw [getD_eq hb, getD_eq (by omega)]; simp only [not_or, Decidable.not_not]; exact ⟨by omega, heq'⟩), List.append_nil]
            rw [wrap_of (by omega) (by omega)]
            exact ⟨⟨a, b + 1, rfl, by omega, by omega, by omega, by omega, by omega, hC4, X, hO4, hXl, by rw [show k + (b + 1) = k + b + 1 by omega, hcs]; exact hXa, by rw [show k + (b + 1) = k + b + 1 by omega, hcs]; exact hal, by rw [show k + (b + 1) - 1 = k + b by omega]; exact hd2, hXo⟩, by show l.length - (_ : Int).toNat < l.length - (_ : Int).toNat; omega⟩
        · have hkb' : k + b = l.length := by omega
          rw [hkb'] at hXa hal
          have hcap : s.len ≤ s.cap := (hO.rep hXo).2.1.1
          refine SLC_from hcap (by omega) fun d2 hdl2 hda2 => ?_
          refine RUN_clearI slt_int hO (i := a) (by omega) (by rw [hda2 (by omega)]; simp) (by omega) fun w5 hO5 hs5 => ?_
          refine SLC_to (by omega) fun y hyl hya hyc => ?_
          refine ⟨hC.trans (.of_step hs5 fun k hk => hk), ?_, hya⟩
          have := hO5.front (k := a) (by simp; omega)
          have hy : y = ⟨s.a, a, s.cap⟩ := by cases y; simp_all
          rw [hy]
          rw [List.take_append_of_le_length (by simp; omega), List.take_take, Nat.min_self, hXa] at this
          exact this
      · have hneq' : l[k] ≠ l[k - 1] := by simpa using hneq
        rw [wrap_of (by omega) (by omega)]
        refine ⟨⟨k + 1, by omega, by omega, by omega, hE1.trans hE2, fun j h1 h2 => ?_⟩, by show l.length - (_ : Int).toNat < l.length - (_ : Int).toNat; omega⟩
        by_cases e : j = k
        · subst e; rw [getD_eq hk, getD_eq (by omega)]; exact hneq'
        · exact hne j h1 (by omega)
    · have : k = l.length := by omega
      subst this
      refine ⟨.of_ext hE1, ?_, rfl⟩
      rw [hall _ hk1 (Nat.le_refl _) hne, List.take_length]
      exact h.ext hE1

end Go.Proofs.YtaeledhbkdakcaaGreatDoor
end

section
/- slices.IndexFunc, slices.DeleteFunc and slices.CompactFunc at [][]int. -/
namespace Go.GX
open Go.RowKit

theorem OwnL.repB {α : Type} [Flat α] {w : World} {base : Nat} {e : TypeId} {s : Sl} {l : List α} (h : OwnL w base e s l) (hok : ∀ x ∈ l, Flat.ok x) : SlR (fun b => s.v.ownBlock = some b) w s l := by
  obtain ⟨h1, h2⟩ := h
  refine ⟨h1, ?_, fun i x hx => ?_⟩
  · rcases h2.2 with ⟨hv, h0⟩ | ⟨g, cap, cur, hv, _, _, hle, hmx, _⟩
    · simp [Sl.v] at hv; omega
    · simp [Sl.v] at hv; obtain ⟨_, rfl⟩ := hv; exact ⟨hle, hmx⟩
  · rcases h2.2 with ⟨hv, h0⟩ | ⟨g, cap, cur, hv, hb, hg, hle, _, hsz, htake⟩
    · rw [h0] at h1; have : l = [] := by cases l; rfl; simp at h1
      subst this; cases hx
    · simp [Sl.v] at hv
      obtain ⟨ha, rfl⟩ := hv
      refine ⟨⟨g, 0, none⟩, Flat.cells x, ha, by simp [Sl.v, ha, Value.ownBlock], Flat.repOk (hok x (List.mem_of_getElem? hx)), fun j v hj => ?_⟩
      have hown : w.ownsRow base e (Rep.sz α) s.v s.len (l.flatMap Flat.cells) := h2
      exact World.ownsRow.cells hown (g := g) (by simp [Sl.v, ha, Value.ownBlock]) _ v (flat_get l hx hj)

/-- What is owned is told by the slice. -/
theorem own_fun {w : World} {base base' : Nat} {e e' : TypeId} {s : Sl} {l l' : List Int} (h : OwnL w base e s l) (h' : OwnL w base' e' s l') : l = l' := by
  have hf : ∀ q : List Int, q.flatMap Flat.cells = q.map (Value.int .i64) := by
    intro q
    induction q with
    | nil => rfl
    | cons x r ih => rw [List.flatMap_cons, ih]; rfl
  have hl : l.length = l'.length := h.1.symm.trans h'.1
  rcases h.2.2 with ⟨hv, h0⟩ | ⟨g, cap, cur, hv, _, hg, _, _, _, htake⟩
  · rw [h.1] at h0
    have h1 : l = [] := List.length_eq_zero_iff.1 h0
    have h2 : l' = [] := List.length_eq_zero_iff.1 (hl.symm.trans h0)
    rw [h1, h2]
  · rcases h'.2.2 with ⟨hv', h0⟩ | ⟨g', cap', cur', hv', _, hg', _, _, _, htake'⟩
    · rw [h'.1] at h0
      have h1 : l' = [] := List.length_eq_zero_iff.1 h0
      have h2 : l = [] := List.length_eq_zero_iff.1 (hl.trans h0)
      rw [h1, h2]
    · rw [hv] at hv'
      cases hv'
      rw [hg] at hg'
      cases hg'
      rw [htake, hf, hf] at htake'
      exact (List.map_inj_right (f := Value.int .i64) fun x y hxy => by cases hxy; rfl).1 htake'

/-- Clearing the last part of a slice of slices of the call's own. -/
theorem RUN_clearS {P : Program} {t ti e : TypeId} {bytes : Nat} (hT : SlT P t e 1 bytes (.slice none 0 0)) {w : World} {base : Nat} {s d : Sl} {l : List Sl} (h : OwnL w base e s l) {i : Nat} (hi : i < l.length) (hd : d.a = s.a.map (·.add i)) (hdl : d.len = l.length - i) {K : Value → World → Prop}
    (hk : ∀ w', OwnL w' base e s (l.take i ++ List.replicate (l.length - i) ⟨none, 0, 0⟩) → Step w w' s.v.ownBlock → K (.tuple #[]) w') : RUN P (.at .val) (bsem .clear #[t] ti #[d.v]) w K := by
  rcases h.2.2 with ⟨hv, h0⟩ | ⟨g, cap, cur, hv, hb, hg, hle, hmx, hsz, htake⟩
  · have := h.1; omega
  · have hv' := hv
    simp [Sl.v] at hv
    obtain ⟨hsa, rfl⟩ := hv
    have hf : ∀ q : List Sl, q.flatMap Flat.cells = q.map Sl.v := by
      intro q
      induction q with
      | nil => rfl
      | cons x r ih => rw [List.flatMap_cons, ih]; rfl
    have hda : d.a = some ((⟨g, 0, none⟩ : Addr).add i) := by rw [hd, hsa]; rfl
    have hown : w.ownsRow base e 1 (.slice (some ⟨g, 0, none⟩) s.len s.cap) s.len (l.map Sl.v) := by
      have := h.2; unfold Go.GX.Own at this; rw [hv', hf] at this; exact this
    refine RUN_clear hT rfl hda (by omega) ?_
    refine setMany_own (List.replicate d.len (.slice none 0 0)) i _ w _ hown (by intro v hv; rw [List.eq_of_mem_replicate hv]; rfl) (by simp; omega) (fun w' hw' hs => hk w' ⟨by simp; have := h.1; omega, ?_⟩ (by rw [hv']; exact hs)) _ 0 (by simp only [Addr.add]; split <;> simp_all)
    unfold Go.GX.Own
    rw [hv', hf]
    have e1 : (l.take i ++ List.replicate (l.length - i) (⟨none, 0, 0⟩ : Sl)).map Sl.v = (l.map Sl.v).take i ++ List.replicate d.len (.slice none 0 0) ++ (l.map Sl.v).drop (i + (List.replicate d.len (Value.slice none 0 0)).length) := by
      rw [List.drop_of_length_le (by simp; omega)]
      simp [hdl, Sl.v]
    rw [e1]
    exact hw'

theorem SlR.ixS {D : Nat → Prop} {w : World} {s : Sl} {l : List Sl} (h : SlR D w s l) {i : Nat} (hi : i < l.length) {K : Addr → Prop}
    (hk : ∀ p, w.cell? p = some l[i].v → K p) : IX s i 1 K := by
  obtain ⟨a, cs, ha, _, hrep, hc⟩ := h.2.2 i l[i] (by simp [hi])
  have hcs : cs = [l[i].v] := hrep
  subst hcs
  have hlen := h.1
  exact ⟨a, ha, by omega, by omega, hk _ (hc 0 _ rfl)⟩

end Go.GX
namespace Go.Proofs.YtaeledhbkdakcaaGreatDoor
open Go.GX Go.RowKit
set_option maxRecDepth 100000

theorem indexFuncS_ok {w : World} {s : Sl} {l : List Sl} (h : R w s l) {f : Value} {p : Sl → Bool} (hf : ∀ x ∈ l, ∀ w', Ext w w' → CALLV Tryz.prog f #[x.v] w' (Ret [.at .bool] fun (b : Bool) w'' => b = p x ∧ Ext w' w'')) :
    Calls Tryz.prog F.slices_IndexFunc_sl_sl_int_sl_int #[s.v, f] w (Ret [.at (.int .i64)] fun (i : Int) w' => (match l.findIdx? p with | some k => i = k | none => i = -1) ∧ Ext w w') := by
  refine C_slices_IndexFunc_sl_sl_int_sl_int ?_
  unfold V_slices_IndexFunc_sl_sl_int_sl_int
  rw [h.len]
  refine ⟨IN l.length fun i w' => Ext w w' ∧ ∀ x ∈ l.take i, p x = false, MN l.length, IN_zero ⟨Ext.refl _, by simp⟩, ?_⟩
  rintro x w1 ⟨i, rfl, hi', hE, ha⟩
  intros
  refine cond_dec (fun hlt => ?_) (fun hge => ⟨?_, hE⟩)
  · have hlt' : i < l.length := by omega
    refine (h.ext hE).ixS hlt' fun q hc => LD_sl hc ?_
    refine callv (hf _ (List.getElem_mem hlt') w1 hE) ?_
    rintro b w2 ⟨rfl, hE2⟩
    refine cond_b (fun ht => ⟨?_, hE.trans hE2⟩) (fun hf => ?_)
    · have : l.findIdx? p = some i := by
        rw [List.findIdx?_eq_some_iff_getElem]
        refine ⟨hlt', ht, fun j hj => ?_⟩
        have := ha l[j] (by rw [List.mem_take_iff_getElem]; exact ⟨j, by omega, rfl⟩)
        simp [this]
      rw [this]
    · refine IN_next h.le hlt' ⟨hE.trans hE2, fun y hy => ?_⟩
      rw [List.take_succ_eq_append_getElem hlt'] at hy
      rcases List.mem_append.1 hy with h1 | h1
      · exact ha y h1
      · rw [List.mem_singleton.1 h1]; exact hf
  · have : i = l.length := by omega
    subst this
    have : l.findIdx? p = none := by
      rw [List.findIdx?_eq_none_iff]
      intro y hy
      exact ha y (by simpa using hy)
    rw [this]

theorem deleteFuncS_ok {w : World} {base : Nat} {s : Sl} {l : List Sl} (h : OwnL w base T.t_sl_int s l) (hl : l.length ≤ 1048576) {f : Value} {p : Sl → Bool}
    (hf : ∀ x ∈ l, ∀ w', Chg w w' (oB s) → CALLV Tryz.prog f #[x.v] w' (Ret [.at .bool] fun (b : Bool) w'' => b = p x ∧ Ext w' w'')) :
    Calls Tryz.prog F.slices_DeleteFunc_sl_sl_int_sl_int #[s.v, f] w (Ret [.at .sl] fun (r : Sl) w' => Chg w w' (oB s) ∧ OwnL w' base T.t_sl_int r (l.filter fun x => !p x) ∧ r.a = s.a) := by
  have hok : ∀ l : List Sl, ∀ x ∈ l, Flat.ok x := fun _ _ _ => trivial
  refine C_slices_DeleteFunc_sl_sl_int_sl_int ?_
  unfold V_slices_DeleteFunc_sl_sl_int_sl_int
  refine call (indexFuncS_ok (p := p) (h.rep (hok _)).any (fun x hx w' hw' => hf x hx w' (Chg.of_ext hw'))) ?_
  rintro i0 w1 ⟨hi0, hE1⟩
  cases hfi : l.findIdx? p with
  | none =>
    rw [hfi] at hi0
    simp only at hi0
    subst hi0
    have hnone := List.findIdx?_eq_none_iff.1 hfi
    refine cond_t rfl ⟨.of_ext hE1, ?_, rfl⟩
    have : l.filter (fun x => !p x) = l := List.filter_eq_self.2 fun x hx => by simp [hnone x hx]
    rw [this]; exact h.ext hE1
  | some k =>
    rw [hfi] at hi0
    simp only at hi0
    subst hi0
    obtain ⟨hk, hpk, hbef⟩ := List.findIdx?_eq_some_iff_getElem.1 hfi
    refine cond_f (by simp) ?_
    have hsl := h.1
    rw [wrap_of (by omega) (by omega)]
    have hfk : (l.take (k + 1)).filter (fun x => !p x) = l.take k := by
      rw [List.take_succ_eq_append_getElem hk, List.filter_append]
      have e1 : (l.take k).filter (fun x => !p x) = l.take k := List.filter_eq_self.2 fun x hx => by
        obtain ⟨j, hj, rfl⟩ := List.mem_take_iff_getElem.1 hx
        have := hbef j (by omega)
        simpa using this
      rw [e1]; simp [hpk]
    refine ⟨fun i j w' => ∃ a b : Nat, i = a ∧ j = b ∧ a < b ∧ b ≤ l.length ∧ Chg w w' (oB s) ∧ ∃ X : List Sl, OwnL w' base T.t_sl_int s X ∧ X.length = l.length ∧ X.take a = (l.take b).filter (fun x => !p x) ∧ ((l.take b).filter fun x => !p x).length = a ∧ X.drop b = l.drop b, fun _ j _ => l.length - j.toNat,
      ⟨k, k + 1, rfl, by omega, by omega, by omega, .of_ext hE1, l, h.ext hE1, rfl, hfk.symm, by rw [hfk]; simp; omega, rfl⟩, ?_⟩
    rintro _ _ w2 ⟨a, b, rfl, rfl, hab, hb, hC, X, hO, hXl, hXa, hal, hXd⟩
    intros
    rw [hsl]
    refine cond_dec (fun hlt => ?_) (fun hge => ?_)
    · have hb' : b < l.length := by omega
      have hXb : X[b]'(by omega) = l[b] := by
        have h1 : (X.drop b)[0]? = (l.drop b)[0]? := by rw [hXd]
        rw [List.getElem?_drop, List.getElem?_drop] at h1
        simp [hb', hXl] at h1
        exact h1
      refine (hO.rep (hok _)).ixS (i := b) (by omega) fun q hc => LD_sl hc ?_
      rw [hXb]
      refine callv (hf _ (List.getElem_mem hb') w2 hC) ?_
      rintro y w3 ⟨rfl, hE3⟩
      have hO3 := hO.ext hE3
      have hC3 := hC.trans (Chg.of_ext hE3)
      refine cond_not (fun hpf => ?_) (fun hpt => ?_)
      · refine IX_own hO3 (i := a) (by omega) rfl fun q hq => ?_
        refine ST_own hO3 (i := a) (by omega) hq l[b] rfl fun w4 hO4 hs4 => ?_
        rw [wrap_of (by omega) (by omega), wrap_of (by omega) (by omega)]
        have hfil : (l.take (b + 1)).filter (fun x => !p x) = (l.take b).filter (fun x => !p x) ++ [l[b]] := by
          rw [List.take_succ_eq_append_getElem hb', List.filter_append]; simp [hpf]
        refine ⟨⟨a + 1, b + 1, by omega, by omega, by omega, by omega, hC3.trans (.of_step hs4 fun k hk => hk), X.set a l[b], hO4, by simpa using hXl, ?_, by rw [hfil]; simp [hal], ?_⟩, by show l.length - (_ : Int).toNat < l.length - (_ : Int).toNat; omega⟩
        · rw [hfil, ← hXa, List.take_succ_eq_append_getElem (by simp; omega), List.take_set, List.set_eq_of_length_le (by simp; omega)]
          simp
        · rw [List.drop_set_of_lt (by omega)]
          have := congrArg (List.drop 1) hXd
          simpa [List.drop_drop] using this
      · rw [wrap_of (by omega) (by omega)]
        have hfil : (l.take (b + 1)).filter (fun x => !p x) = (l.take b).filter (fun x => !p x) := by
          rw [List.take_succ_eq_append_getElem hb', List.filter_append]; simp [hpt]
        refine ⟨⟨a, b + 1, rfl, by omega, by omega, by omega, hC3, X, hO3, hXl, by rw [hfil]; exact hXa, by rw [hfil]; exact hal, ?_⟩, by show l.length - (_ : Int).toNat < l.length - (_ : Int).toNat; omega⟩
        have := congrArg (List.drop 1) hXd
        simpa [List.drop_drop] using this
    · have : b = l.length := by omega
      subst this
      rw [List.take_length] at hXa hal
      have hcap : s.len ≤ s.cap := (hO.rep (hok _)).2.1.1
      refine SLC_from hcap (by omega) fun d hdl hda => ?_
      refine RUN_clearS slt_rows hO (i := a) (by omega) (by rw [hda (by omega)]; simp) (by omega) fun w5 hO5 hs5 => ?_
      refine SLC_to (by omega) fun y hyl hya hyc => ?_
      refine ⟨hC.trans (.of_step hs5 fun k hk => hk), ?_, hya⟩
      have := hO5.front (k := a) (by simp; omega)
      have hy : y = ⟨s.a, a, s.cap⟩ := by cases y; simp_all
      rw [hy]
      rw [List.take_append_of_le_length (by simp; omega), List.take_take, Nat.min_self, hXa] at this
      exact this

/-! ### slices.CompactFunc -/

def nil0 : Sl := ⟨none, 0, 0⟩

/-- What slices.CompactFunc keeps of the first b elements. -/
def compS (c : Sl → List Int) (l : List Sl) : Nat → List Sl
  | 0 => []
  | b + 1 => compS c l b ++ (if b = 0 ∨ c (l.getD b nil0) ≠ c (l.getD (b - 1) nil0) then [l.getD b nil0] else [])

theorem getDS {l : List Sl} {i : Nat} (hi : i < l.length) : l.getD i nil0 = l[i] := by
  rw [List.getD_eq_getElem?_getD, List.getElem?_eq_getElem hi]; rfl

theorem compS_sub (c : Sl → List Int) (l : List Sl) : ∀ {b : Nat}, b ≤ l.length → (compS c l b).Sublist (l.take b)
  | 0, _ => by simp [compS]
  | b + 1, hb => by
    rw [compS, List.take_succ_eq_append_getElem (by omega), getDS (by omega)]
    refine List.Sublist.append (compS_sub c l (by omega)) ?_
    split
    · exact List.Sublist.refl _
    · exact List.nil_sublist _

theorem compS_mem {c : Sl → List Int} {l : List Sl} : ∀ {b : Nat}, b ≤ l.length → ∀ y, y ∈ (compS c l b).map c ↔ y ∈ (l.take b).map c
  | 0, _, y => by simp [compS]
  | b + 1, hb, y => by
    rw [compS, List.take_succ_eq_append_getElem (by omega), getDS (by omega), List.map_append, List.map_append, List.mem_append, List.mem_append, compS_mem (by omega)]
    split
    · simp
    · rename_i h
      simp only [not_or, Decidable.not_not] at h
      constructor
      · rintro (h1 | h1)
        · exact .inl h1
        · simp at h1
      · rintro (h1 | h1)
        · exact .inl h1
        · left
          simp only [List.map_cons, List.map_nil, List.mem_singleton] at h1
          rw [h1, h.2, getDS (by omega)]
          exact List.mem_map.2 ⟨_, List.mem_take_iff_getElem.2 ⟨b - 1, by omega, rfl⟩, rfl⟩

theorem compS_rise {c : Sl → List Int} {l : List Sl} (hs : (l.map c).Pairwise fun a b => cmpL a b ≤ 0) : ∀ {b : Nat}, b ≤ l.length → ((compS c l b).map c).Pairwise fun a b => cmpL a b < 0
  | 0, _ => by simp [compS]
  | b + 1, hb => by
    rw [compS, getDS (by omega)]
    split
    · rename_i h
      rw [List.map_append]
      refine List.pairwise_append.2 ⟨compS_rise hs (by omega), by simp, ?_⟩
      intro x hx y hy
      simp at hy
      subst hy
      obtain ⟨z, hz, rfl⟩ := List.mem_map.1 ((compS_mem (by omega) _).1 hx)
      obtain ⟨j, hj, rfl⟩ := List.mem_take_iff_getElem.1 hz
      have hb' : b < l.length := by omega
      have hj' : j < b := by omega
      rcases h with h | h
      · omega
      · rw [getDS (by omega)] at h
        have hp : ∀ i k (hik : i < k) (hk : k < l.length), cmpL (c l[i]) (c l[k]) ≤ 0 := fun i k hik hk => by
          have := List.pairwise_iff_getElem.1 hs i k (by simp; omega) (by simpa using hk) hik
          simpa using this
        have h1 := hp (b - 1) b (by omega) hb'
        have h3 : cmpL (c l[b - 1]) (c l[b]) < 0 := by
          rcases Int.lt_or_eq_of_le h1 with h2 | h2
          · exact h2
          · exact absurd (cmpL_zero.1 h2).symm h
        by_cases e : j = b - 1
        · subst e; exact h3
        · have h2 := hp j (b - 1) (by omega) (by omega)
          rcases Int.lt_or_eq_of_le h2 with h4 | h4
          · exact cmpL_trans h4 h3
          · rw [cmpL_zero.1 h4]; exact h3
    · simpa using compS_rise hs (b := b) (by omega)

theorem compactFuncS_ok {w : World} {base : Nat} {s : Sl} {l : List Sl} {c : Sl → List Int} {f : Value} (h : OwnL w base T.t_sl_int s l) (hl : l.length ≤ 1048576)
    (hf : ∀ x ∈ l, ∀ y ∈ l, ∀ w', Chg w w' (oB s) → CALLV Tryz.prog f #[x.v, y.v] w' (Ret [.at .bool] fun (b : Bool) w'' => b = decide (c x = c y) ∧ Ext w' w'')) :
    Calls Tryz.prog F.slices_CompactFunc_sl_sl_int_sl_int #[s.v, f] w (Ret [.at .sl] fun (r : Sl) w' => Chg w w' (oB s) ∧ OwnL w' base T.t_sl_int r (compS c l l.length) ∧ r.a = s.a) := by
  have hok : ∀ l : List Sl, ∀ x ∈ l, Flat.ok x := fun _ _ _ => trivial
  refine C_slices_CompactFunc_sl_sl_int_sl_int ?_
  unfold V_slices_CompactFunc_sl_sl_int_sl_int
  have hsl := h.1
  have hr := h.rep (hok _)
  have hall : ∀ b, 1 ≤ b → b ≤ l.length → (∀ j, 1 ≤ j → j < b → c (l.getD j nil0) ≠ c (l.getD (j - 1) nil0)) → compS c l b = l.take b := by
    intro b
    induction b with
    | zero => intro h; omega
    | succ b ih =>
      intro _ hb hne
      rw [List.take_succ_eq_append_getElem (by omega), compS, getDS (by omega)]
      by_cases h0 : b = 0
      · subst h0; simp [compS]
      · rw [ih (by omega) (by omega) (fun j h1 h2 => hne j h1 (by omega)), if_pos (.inr (by have := hne b (by omega) (by omega); rwa [getDS (by omega)] at this))]
  rw [hsl]
  refine cond_dec (fun hlt => ?_) (fun hge => ?_)
  · refine ⟨Chg.refl _ _, ?_, rfl⟩
    have : compS c l l.length = l := by
      by_cases h0 : l.length = 0
      · rw [List.length_eq_zero_iff.1 h0]; rfl
      · rw [hall l.length (by omega) (Nat.le_refl _) (fun j h1 h2 => by omega), List.take_length]
    rw [this]; exact h
  · refine ⟨fun i w' => ∃ k : Nat, i = k ∧ 1 ≤ k ∧ k ≤ l.length ∧ Ext w w' ∧ ∀ j, 1 ≤ j → j < k → c (l.getD j nil0) ≠ c (l.getD (j - 1) nil0), fun i _ => l.length - i.toNat, ⟨1, rfl, by omega, by omega, Ext.refl _, fun j h1 h2 => by omega⟩, ?_⟩
    rintro _ w1 ⟨k, rfl, hk1, hkl, hE1, hne⟩
    intros
    refine cond_dec (fun hlt => ?_) (fun hge2 => ?_)
    · have hk : k < l.length := by omega
      intro w2 hE2 _
      have hE12 := hE1.trans hE2
      refine (hr.ext hE12).ixS (i := k) hk fun q hc => LD_sl hc ⟨Ext.refl _, Ext.refl _, ?_⟩
      rw [wrap_of (by omega) (by omega)]
      have e1 : ((k : Int) - 1) = ((k - 1 : Nat) : Int) := by omega
      rw [e1]
      refine (hr.ext hE12).ixS (i := k - 1) (by omega) fun q hc => ⟨Ext.refl _, LD_sl hc ⟨Ext.refl _, ?_⟩⟩
      refine callv (hf _ (List.getElem_mem hk) _ (List.getElem_mem (by omega)) w2 (Chg.of_ext hE12)) ?_
      rintro x w3 ⟨rfl, hE3⟩
      have hE13 := hE12.trans hE3
      refine ⟨hE3, ?_⟩
      refine cond_dec (fun heq => ?_) (fun hneq => ?_)
      · refine SLC_from' hr.2.1.1 (by omega) fun d hdl hdc hda => ?_
        have hck : compS c l (k + 1) = l.take k := by
          rw [compS, hall k hk1 (by omega) hne, if_neg (by rw [getDS hk, getDS (by omega)]; simp only [not_or, Decidable.not_not]; exact ⟨by omega, heq⟩), List.append_nil]
        refine ⟨fun i j w' => ∃ a b : Nat, i = a ∧ j = b ∧ 1 ≤ b ∧ k + b ≤ l.length ∧ a < k + b ∧ k ≤ a ∧ Chg w w' (oB s) ∧ ∃ X : List Sl, OwnL w' base T.t_sl_int s X ∧ X.length = l.length ∧ X.take a = compS c l (k + b) ∧ (compS c l (k + b)).length = a ∧ X.drop (k + b - 1) = l.drop (k + b - 1), fun _ j _ => l.length - j.toNat,
          ⟨k, 1, rfl, rfl, by omega, by omega, by omega, by omega, .of_ext hE13, l, h.ext hE13, rfl, hck.symm, by rw [hck]; simp; omega, rfl⟩, ?_⟩
        rintro _ _ w4 ⟨a, b, rfl, rfl, hb1, hkb, hab, hka, hC, X, hO, hXl, hXa, hal, hXd⟩
        intros
        rw [hdl, hsl]
        have hXR := slr_sub (hO.rep (hok _)) (i := k) (by omega) (by rw [hdl]) hdc hda
        refine cond_dec (fun hlt2 => ?_) (fun hge3 => ?_)
        · have hb : k + b < l.length := by omega
          have hX1 : X[k + b]'(by omega) = l[k + b] := by
            have h1 : (X.drop (k + b - 1))[1]? = (l.drop (k + b - 1))[1]? := by rw [hXd]
            rw [List.getElem?_drop, List.getElem?_drop, show k + b - 1 + 1 = k + b by omega, List.getElem?_eq_getElem (by omega), List.getElem?_eq_getElem hb] at h1
            simpa using h1
          have hX0 : X[k + b - 1]'(by omega) = l[k + b - 1] := by
            have h1 : (X.drop (k + b - 1))[0]? = (l.drop (k + b - 1))[0]? := by rw [hXd]
            rw [List.getElem?_drop, List.getElem?_drop, Nat.add_zero, List.getElem?_eq_getElem (by omega), List.getElem?_eq_getElem (by omega)] at h1
            simpa using h1
          intro w5 hE5 _
          have hC5 := hC.trans (Chg.of_ext hE5)
          have hO5 := hO.ext hE5
          refine (hXR.ext hE5).ixS (i := b) (by simp; omega) fun q hc => LD_sl hc ⟨Ext.refl _, Ext.refl _, ?_⟩
          rw [wrap_of (by omega) (by omega), show ((b : Int) - 1) = ((b - 1 : Nat) : Int) by omega]
          refine (hXR.ext hE5).ixS (i := b - 1) (by simp; omega) fun q hc => ⟨Ext.refl _, LD_sl hc ⟨Ext.refl _, ?_⟩⟩
          simp only [List.getElem_drop, show k + (b - 1) = k + b - 1 by omega, hX1, hX0]
          refine callv (hf _ (List.getElem_mem hb) _ (List.getElem_mem (by omega)) w5 hC5) ?_
          rintro x w6 ⟨rfl, hE6⟩
          have hC6 := hC5.trans (Chg.of_ext hE6)
          have hO6 := hO5.ext hE6
          refine ⟨hE6, hE6, ?_⟩
          have hd2 : X.drop (k + b) = l.drop (k + b) := by
            have := congrArg (List.drop 1) hXd
            rwa [List.drop_drop, List.drop_drop, show k + b - 1 + 1 = k + b by omega] at this
          refine cond_not (fun hne2 => ?_) (fun heq2 => ?_)
          · have hne' : c l[k + b] ≠ c l[k + b - 1] := by simpa using hne2
            have hcs : compS c l (k + b + 1) = compS c l (k + b) ++ [l[k + b]] := by
              rw [compS, if_pos (.inr (by rw [getDS hb, getDS (by omega)]; exact hne')), getDS hb]
            refine ((hXR.ext hE5).ext hE6).ixS (i := b) (by simp; omega) fun q hc => LD_sl hc ?_
            simp only [List.getElem_drop, hX1]
            refine IX_own hO6 (i := a) (by omega) rfl fun q hq => ?_
            refine ST_own hO6 (i := a) (by omega) hq l[k + b] rfl fun w7 hO7 hs7 => ?_
            rw [wrap_of (by omega) (by omega), wrap_of (by omega) (by omega)]
            refine ⟨⟨a + 1, b + 1, by omega, by omega, by omega, by omega, by omega, by omega, hC6.trans (.of_step hs7 fun k hk => hk), X.set a l[k + b], hO7, by simpa using hXl, ?_, ?_, ?_⟩, by show l.length - (_ : Int).toNat < l.length - (_ : Int).toNat; omega⟩
            · rw [show k + (b + 1) = k + b + 1 by omega, hcs, ← hXa, List.take_succ_eq_append_getElem (by simp; omega), List.take_set, List.set_eq_of_length_le (by simp; omega)]
              simp
            · rw [show k + (b + 1) = k + b + 1 by omega, hcs]; simp [hal]
            · rw [show k + (b + 1) - 1 = k + b by omega, List.drop_set_of_lt (by omega)]
              exact hd2
          · have heq' : c l[k + b] = c l[k + b - 1] := by simpa using heq2
            have hcs : compS c l (k + b + 1) = compS c l (k + b) := by
              rw [compS, if_neg (by rw [getDS hb, getDS (by omega)]; simp only [not_or, Decidable.not_not]; exact ⟨by omega, heq'⟩), List.append_nil]
            rw [wrap_of (by omega) (by omega)]
            exact ⟨⟨a, b + 1, rfl, by omega, by omega, by omega, by omega, by omega, hC6, X, hO6, hXl, by rw [show k + (b + 1) = k + b + 1 by omega, hcs]; exact hXa, by rw [show k + (b + 1) = k + b + 1 by omega, hcs]; exact hal, by rw [show k + (b + 1) - 1 = k + b by omega]; exact hd2⟩, by show l.length - (_ : Int).toNat < l.length - (_ : Int).toNat; omega⟩
        · have hkb' : k + b = l.length := by omega
          rw [hkb'] at hXa hal
          have hcap : s.len ≤ s.cap := (hO.rep (hok _)).2.1.1
          refine SLC_from hcap (by omega) fun d2 hdl2 hda2 => ?_
          refine RUN_clearS slt_rows hO (i := a) (by omega) (by rw [hda2 (by omega)]; simp) (by omega) fun w5 hO5 hs5 => ?_
          refine SLC_to (by omega) fun y hyl hya hyc => ?_
          refine ⟨hC.trans (.of_step hs5 fun k hk => hk), ?_, hya⟩
          have := hO5.front (k := a) (by simp; omega)
          have hy : y = ⟨s.a, a, s.cap⟩ := by cases y; simp_all
          rw [hy]
          rw [List.take_append_of_le_length (by simp; omega), List.take_take, Nat.min_self, hXa] at this
          exact this
      · rw [wrap_of (by omega) (by omega)]
        refine ⟨⟨k + 1, by omega, by omega, by omega, hE13, fun j h1 h2 => ?_⟩, by show l.length - (_ : Int).toNat < l.length - (_ : Int).toNat; omega⟩
        by_cases e : j = k
        · subst e; rw [getDS hk, getDS (by omega)]; exact hneq
        · exact hne j h1 (by omega)
    · have : k = l.length := by omega
      subst this
      refine ⟨.of_ext hE1, ?_, rfl⟩
      rw [hall _ hk1 (Nat.le_refl _) hne, List.take_length]
      exact h.ext hE1

end Go.Proofs.YtaeledhbkdakcaaGreatDoor
end

section
/- Contracts of library functions (the kit's shelf, laid at this program by the kit's own tools, in plain words). -/
namespace Go.Proofs.YtaeledhbkdakcaaGreatDoor
open Go.Shelf
def Srt.laysSlF6_f292_ren : Go.Shelf.Ren := ⟨fun | 6 => 292 | 15 => 126 | 14 => 300 | 28 => 162 | 29 => 163 | 20 => 302 | 21 => 303 | 22 => 304 | 23 => 305 | 24 => 306 | 25 => 307 | 26 => 308 | 27 => 309 | 46 => 310 | 47 => 183 | 48 => 184 | 49 => 311 | 50 => 312 | 57 => 313 | n => n, fun | 22 => 22 | 24 => 25 | 25 => 91 | 3 => 3 | 39 => 84 | 0 => 0 | 53 => 132 | 55 => 135 | 4 => 4 | 46 => 160 | 45 => 159 | 50 => 48 | 5 => 5 | 9 => 9 | 66 => 177 | 70 => 181 | 76 => 194 | 77 => 195 | n => n, fun | n => n⟩
theorem Srt.laysSlF6_f292 : Go.Proofs.SlLaysF.n6 Tryz.prog Srt.laysSlF6_f292_ren := {
  mixed := by kernel_rfl
  f6 := ⟨Tryz.f292.name, by decide, Tryz.func292.trans (congrArg some (by kernel_rfl))⟩
  f14 := ⟨Tryz.f300.name, by decide, Tryz.func300.trans (congrArg some (by kernel_rfl))⟩
  f15 := Tryz.func126.trans (congrArg some (by kernel_rfl))
  f20 := ⟨Tryz.f302.name, by decide, Tryz.func302.trans (congrArg some (by kernel_rfl))⟩
  f21 := ⟨Tryz.f303.name, by decide, Tryz.func303.trans (congrArg some (by kernel_rfl))⟩
  f22 := ⟨Tryz.f304.name, by decide, Tryz.func304.trans (congrArg some (by kernel_rfl))⟩
  f23 := ⟨Tryz.f305.name, by decide, Tryz.func305.trans (congrArg some (by kernel_rfl))⟩
  f24 := ⟨Tryz.f306.name, by decide, Tryz.func306.trans (congrArg some (by kernel_rfl))⟩
  f25 := ⟨Tryz.f307.name, by decide, Tryz.func307.trans (congrArg some (by kernel_rfl))⟩
  f26 := ⟨Tryz.f308.name, by decide, Tryz.func308.trans (congrArg some (by kernel_rfl))⟩
  f27 := ⟨Tryz.f309.name, by decide, Tryz.func309.trans (congrArg some (by kernel_rfl))⟩
  f28 := Tryz.func162.trans (congrArg some (by kernel_rfl))
  f29 := Tryz.func163.trans (congrArg some (by kernel_rfl))
  f46 := ⟨Tryz.f310.name, by decide, Tryz.func310.trans (congrArg some (by kernel_rfl))⟩
  f47 := Tryz.func183.trans (congrArg some (by kernel_rfl))
  f48 := Tryz.func184.trans (congrArg some (by kernel_rfl))
  f49 := ⟨Tryz.f311.name, by decide, Tryz.func311.trans (congrArg some (by kernel_rfl))⟩
  f50 := ⟨Tryz.f312.name, by decide, Tryz.func312.trans (congrArg some (by kernel_rfl))⟩
  f57 := ⟨Tryz.f313.name, by decide, Tryz.func313.trans (congrArg some (by kernel_rfl))⟩
  t0 := Tryz.underlying0
  a0 := Tryz.isAgg0
  z0 := Tryz.sizeOf0
  v0 := Tryz.zeroValue0
  t3 := Tryz.underlying3
  a3 := Tryz.isAgg3
  z3 := Tryz.sizeOf3
  v3 := Tryz.zeroValue3
  t4 := Tryz.underlying4
  a4 := Tryz.isAgg4
  z4 := Tryz.sizeOf4
  v4 := Tryz.zeroValue4
  t5 := Tryz.underlying5
  a5 := Tryz.isAgg5
  z5 := Tryz.sizeOf5
  v5 := Tryz.zeroValue5
  t9 := Tryz.underlying9
  a9 := Tryz.isAgg9
  z9 := Tryz.sizeOf9
  v9 := Tryz.zeroValue9
  t22 := Tryz.underlying22
  a22 := Tryz.isAgg22
  z22 := Tryz.sizeOf22
  v22 := Tryz.zeroValue22
  a24 := Tryz.isAgg25
  z24 := Tryz.sizeOf25
  t25 := Tryz.underlying91
  a25 := Tryz.isAgg91
  z25 := Tryz.sizeOf91
  v25 := Tryz.zeroValue91
  t39 := Tryz.underlying84
  a39 := Tryz.isAgg84
  z39 := Tryz.sizeOf84
  v39 := Tryz.zeroValue84
  t45 := Tryz.underlying159
  a45 := Tryz.isAgg159
  z45 := Tryz.sizeOf159
  v45 := Tryz.zeroValue159
  t46 := Tryz.underlying160
  a46 := Tryz.isAgg160
  z46 := Tryz.sizeOf160
  v46 := Tryz.zeroValue160
  t50 := Tryz.underlying48
  a50 := Tryz.isAgg48
  z50 := Tryz.sizeOf48
  v50 := Tryz.zeroValue48
  t53 := Tryz.underlying132
  a53 := Tryz.isAgg132
  z53 := Tryz.sizeOf132
  v53 := Tryz.zeroValue132
  t55 := Tryz.underlying135
  a55 := Tryz.isAgg135
  z55 := Tryz.sizeOf135
  v55 := Tryz.zeroValue135
  t66 := Tryz.underlying177
  a66 := Tryz.isAgg177
  z66 := Tryz.sizeOf177
  v66 := Tryz.zeroValue177
  t70 := Tryz.underlying181
  a70 := Tryz.isAgg181
  z70 := Tryz.sizeOf181
  v70 := Tryz.zeroValue181
  t76 := Tryz.underlying194
  a76 := Tryz.isAgg194
  z76 := Tryz.sizeOf194
  v76 := Tryz.zeroValue194
  t77 := Tryz.underlying195
  a77 := Tryz.isAgg195
  z77 := Tryz.sizeOf195
  v77 := Tryz.zeroValue195 }
open Go.RowKit Go.Lib Go.Sort in
/-- **slices.SortFunc, IN THE DOCUMENTATION's OWN TERMS: A PERMUTATION OF WHAT THE ROW HELD, SORTED BY 'cmp(a, b) < 0'.** Which of two equals comes first is left open ("The sort is not guaranteed to be stable"). (LAID AT THE INSTANCE 'slices.SortFunc[[][]int,[]int]': no walk: one application.) -/
theorem Srt.slices_SortFunc {α : Type} [Inhabited α] (enc : α → Value) (h1 : OneCell enc) (cf : α → α → Int) (hO : SWO (ltOf cf)) (g : Nat) (cb : Array Value) (blk off cap : Nat) (d : Array α) (w : World) (eg : ∀ args w, (callFunc g args).run Tryz.prog w = .ok (.enter g args) w) (hcmp : CmpLays1 Tryz.prog g cb enc cf blk off d.size w) (hH : Holds enc w blk off d) (hblk : blk < w.heap.size) (hsz : d.size < 4611686018427387904) :
    Calls Tryz.prog 292 #[.slice (some ⟨blk, off, none⟩) d.size cap, .func (.func g) #[] cb] w fun e w' =>
      e = .returned (.tuple #[]) ∧ ∃ d' n os, PermIn 0 d.size d d' ∧ SortedIn (ltOf cf) 0 d.size d' ∧ w' = sortWorld enc w blk off n d' os := Any.slices_SortFunc Srt.laysSlF6_f292 enc h1 cf hO g cb blk off cap d w eg hcmp hH hblk hsz
def Srt.laysSlF06_f292_ren : Go.Shelf.Ren := ⟨fun | 6 => 292 | 15 => 126 | 14 => 300 | 28 => 162 | 29 => 163 | 20 => 302 | 21 => 303 | 22 => 304 | 23 => 305 | 24 => 306 | 25 => 307 | 26 => 308 | 27 => 309 | 46 => 310 | 47 => 183 | 48 => 184 | 49 => 311 | 50 => 312 | 57 => 313 | n => n, fun | 22 => 22 | 24 => 25 | 25 => 91 | 3 => 3 | 39 => 84 | 0 => 0 | 53 => 132 | 55 => 135 | 4 => 4 | 46 => 160 | 45 => 159 | 50 => 48 | 5 => 5 | 9 => 9 | 66 => 177 | 70 => 181 | 76 => 194 | 77 => 195 | n => n, fun | n => n⟩
theorem Srt.laysSlF06_f292 : Go.Proofs.SlLaysF0.n6 Tryz.prog Srt.laysSlF06_f292_ren := {
  mixed := by kernel_rfl
  f6 := ⟨Tryz.f292.name, by decide, Tryz.func292.trans (congrArg some (by kernel_rfl))⟩
  f14 := ⟨Tryz.f300.name, by decide, Tryz.func300.trans (congrArg some (by kernel_rfl))⟩
  f15 := Tryz.func126.trans (congrArg some (by kernel_rfl))
  f20 := ⟨Tryz.f302.name, by decide, Tryz.func302.trans (congrArg some (by kernel_rfl))⟩
  f21 := ⟨Tryz.f303.name, by decide, Tryz.func303.trans (congrArg some (by kernel_rfl))⟩
  f22 := ⟨Tryz.f304.name, by decide, Tryz.func304.trans (congrArg some (by kernel_rfl))⟩
  f23 := ⟨Tryz.f305.name, by decide, Tryz.func305.trans (congrArg some (by kernel_rfl))⟩
  f24 := ⟨Tryz.f306.name, by decide, Tryz.func306.trans (congrArg some (by kernel_rfl))⟩
  f25 := ⟨Tryz.f307.name, by decide, Tryz.func307.trans (congrArg some (by kernel_rfl))⟩
  f26 := ⟨Tryz.f308.name, by decide, Tryz.func308.trans (congrArg some (by kernel_rfl))⟩
  f27 := ⟨Tryz.f309.name, by decide, Tryz.func309.trans (congrArg some (by kernel_rfl))⟩
  f28 := Tryz.func162.trans (congrArg some (by kernel_rfl))
  f29 := Tryz.func163.trans (congrArg some (by kernel_rfl))
  f46 := ⟨Tryz.f310.name, by decide, Tryz.func310.trans (congrArg some (by kernel_rfl))⟩
  f47 := Tryz.func183.trans (congrArg some (by kernel_rfl))
  f48 := Tryz.func184.trans (congrArg some (by kernel_rfl))
  f49 := ⟨Tryz.f311.name, by decide, Tryz.func311.trans (congrArg some (by kernel_rfl))⟩
  f50 := ⟨Tryz.f312.name, by decide, Tryz.func312.trans (congrArg some (by kernel_rfl))⟩
  f57 := ⟨Tryz.f313.name, by decide, Tryz.func313.trans (congrArg some (by kernel_rfl))⟩
  t0 := Tryz.underlying0
  a0 := Tryz.isAgg0
  z0 := Tryz.sizeOf0
  v0 := Tryz.zeroValue0
  t3 := Tryz.underlying3
  a3 := Tryz.isAgg3
  z3 := Tryz.sizeOf3
  v3 := Tryz.zeroValue3
  t4 := Tryz.underlying4
  a4 := Tryz.isAgg4
  z4 := Tryz.sizeOf4
  v4 := Tryz.zeroValue4
  t5 := Tryz.underlying5
  a5 := Tryz.isAgg5
  z5 := Tryz.sizeOf5
  v5 := Tryz.zeroValue5
  t9 := Tryz.underlying9
  a9 := Tryz.isAgg9
  z9 := Tryz.sizeOf9
  v9 := Tryz.zeroValue9
  t22 := Tryz.underlying22
  a22 := Tryz.isAgg22
  z22 := Tryz.sizeOf22
  v22 := Tryz.zeroValue22
  t25 := Tryz.underlying91
  a25 := Tryz.isAgg91
  z25 := Tryz.sizeOf91
  v25 := Tryz.zeroValue91
  t39 := Tryz.underlying84
  a39 := Tryz.isAgg84
  z39 := Tryz.sizeOf84
  v39 := Tryz.zeroValue84
  t45 := Tryz.underlying159
  a45 := Tryz.isAgg159
  z45 := Tryz.sizeOf159
  v45 := Tryz.zeroValue159
  t46 := Tryz.underlying160
  a46 := Tryz.isAgg160
  z46 := Tryz.sizeOf160
  v46 := Tryz.zeroValue160
  t50 := Tryz.underlying48
  a50 := Tryz.isAgg48
  z50 := Tryz.sizeOf48
  v50 := Tryz.zeroValue48
  t53 := Tryz.underlying132
  a53 := Tryz.isAgg132
  z53 := Tryz.sizeOf132
  v53 := Tryz.zeroValue132
  t55 := Tryz.underlying135
  a55 := Tryz.isAgg135
  z55 := Tryz.sizeOf135
  v55 := Tryz.zeroValue135
  t66 := Tryz.underlying177
  a66 := Tryz.isAgg177
  z66 := Tryz.sizeOf177
  v66 := Tryz.zeroValue177
  t70 := Tryz.underlying181
  a70 := Tryz.isAgg181
  z70 := Tryz.sizeOf181
  v70 := Tryz.zeroValue181
  t76 := Tryz.underlying194
  a76 := Tryz.isAgg194
  z76 := Tryz.sizeOf194
  v76 := Tryz.zeroValue194
  t77 := Tryz.underlying195
  a77 := Tryz.isAgg195
  z77 := Tryz.sizeOf195
  v77 := Tryz.zeroValue195 }
open Go.RowKit Go.Lib Go.Sort in
/-- **slices.SortFunc AT NO ELEMENT, A nil SLICE TOO: nothing turns.** (LAID AT THE INSTANCE 'slices.SortFunc[[][]int,[]int]': no walk: one application.) -/
theorem Srt.slices_SortFunc_none {α : Type} [Inhabited α] (p : Option Addr) (cap : Nat) (fv : Value) (w : World) :
    Calls Tryz.prog 292 #[.slice p 0 cap, fv] w fun e w' => e = .returned (.tuple #[]) ∧ w' = w := AnyF.slices_SortFunc_none Srt.laysSlF06_f292 p cap fv w
end Go.Proofs.YtaeledhbkdakcaaGreatDoor
end

section
/- slices.SortFunc at [][]int under slices.Compare; lists in order, each once. -/
namespace Go
open Go.Sort Go.Proofs

theorem holds_of_blockE {α : Type} [Inhabited α] (enc : α → Value) {w : World} {g : Nat} {cur : Array Value} {e : TypeId} {d : Array α} (hb : w.heap[g]? = some (.cells cur e (0, 0))) (ht : cur.toList.take d.size = d.toList.map enc) : Holds enc w g 0 d := by
  intro j hj
  refine ⟨?_, by simp [World.frozen?, hb]⟩
  have h1 : (cur.toList.take d.size)[j]? = (d.toList.map enc)[j]? := by rw [ht]
  rw [List.getElem?_take_of_lt hj] at h1
  simp only [World.cell?, hb, Nat.zero_add]
  simp only [Option.isSome_none, Bool.false_eq_true, if_false]
  rw [← Array.getElem?_toList, h1]
  simp [hj]

theorem heap_sortedE {α : Type} [Inhabited α] (enc : α → Value) {w : World} {g n : Nat} {os : Array Obj} {cur : Array Value} {e : TypeId} {fr : Nat × Nat} (d : Array α) (hb : w.heap[g]? = some (.cells cur e fr)) :
    (grow (putRow enc (Sort.ahead w n) g 0 d) os).heap[g]? = some (.cells (putCells enc 0 d cur) e fr) := by
  have hg : g < w.heap.size := (Array.getElem?_eq_some_iff.1 hb).1
  rw [heap_grow_old _ _ (by simpa using hg)]
  simp [putRow, mapBlock, Sort.ahead, Array.getElem?_modify, hb, onCells]

theorem grownBy_sortedE {α : Type} [Inhabited α] (enc : α → Value) {w : World} {g n : Nat} {os : Array Obj} (d : Array α) : w.grownBy (grow (putRow enc (Sort.ahead w n) g 0 d) os) (some g) := by
  refine ⟨rfl, rfl, rfl, by simp, fun k hk hne => ?_⟩
  rw [heap_grow_old _ _ (by simpa using hk)]
  have : g ≠ k := fun e => hne (by rw [e])
  simp [putRow, mapBlock, Sort.ahead, Array.getElem?_modify, this]

theorem take_putCellsE {α : Type} [Inhabited α] (enc : α → Value) (cur : Array Value) (d : Array α) (h : d.size ≤ cur.size) : (putCells enc 0 d cur).toList.take d.size = d.toList.map enc := by
  apply List.ext_getElem?
  intro j
  by_cases hj : j < d.size
  · rw [List.getElem?_take_of_lt hj, Array.getElem?_toList]
    simp [putCells, hj, show j < cur.size by omega]
  · rw [List.getElem?_take_eq_none (by omega), List.getElem?_eq_none (by simp; omega)]

theorem ownsRow_sortedE {α : Type} [Inhabited α] (enc : α → Value) {w : World} {base g cap n k : Nat} {e : TypeId} {os : Array Obj} {cur : Array Value} {d : Array α} (hl : d.size = k) (hbase : base ≤ g) (hb : w.heap[g]? = some (.cells cur e (0, 0)))
    (h1 : k ≤ cap) (h2 : cap ≤ maxLen) (h3 : cur.size = cap * 1) :
    (grow (putRow enc (Sort.ahead w n) g 0 d) os).ownsRow base e 1 (.slice (some ⟨g, 0, none⟩) k cap) k (d.toList.map enc) :=
  ⟨by simp [hl], .inr ⟨g, cap, _, rfl, hbase, heap_sortedE enc _ hb, h1, h2, by simp [putCells, h3], by rw [Nat.mul_one, ← hl]; exact take_putCellsE enc cur d (by omega)⟩⟩

end Go
namespace Go.Proofs.YtaeledhbkdakcaaGreatDoor
open Go.GX Go.RowKit Go.Sort
set_option maxRecDepth 100000

theorem cmpL_neg : ∀ a b : List Int, cmpL b a = - cmpL a b
  | [], [] => rfl
  | [], _ :: _ => rfl
  | _ :: _, [] => rfl
  | x :: a, y :: b => by
    rw [cmpL, cmpL]
    by_cases h1 : x < y
    · rw [if_pos h1, if_neg (by omega), if_pos h1]
      rfl
    · by_cases h2 : y < x
      · rw [if_pos h2, if_neg h1, if_pos h2]
      · rw [if_neg h2, if_neg h1, if_neg h1, if_neg h2]
        exact cmpL_neg a b

theorem cmpL_le_trans {a b c : List Int} (h1 : cmpL a b ≤ 0) (h2 : cmpL b c ≤ 0) : cmpL a c ≤ 0 := by
  rcases Int.lt_or_eq_of_le h1 with h3 | h3
  · rcases Int.lt_or_eq_of_le h2 with h4 | h4
    · have := cmpL_trans h3 h4; omega
    · rw [← cmpL_zero.1 h4]; exact h1
  · rw [cmpL_zero.1 h3]; exact h2

theorem Ret_int {Q : Int → World → Prop} {e : Ending} {w : World} (h : Ret [.at (.int .i64)] Q e w) : ∃ b, e = .returned (.int .i64 b) ∧ Q b w := by
  cases e with
  | returned v =>
    simp only [Ret] at h
    cases v <;> simp [unR, Sh.cells, app, At.un, atsR, botW] at h
    rename_i k n
    cases k <;> first | exact ⟨_, rfl, h⟩ | exact h.elim
  | panicked _ => exact h.elim
  | outgrown => exact h.elim

theorem sortRows_ok {w : World} {base : Nat} {s : Sl} {ss : List Sl} {c : Sl → List Int} (h : OwnL w base T.t_sl_int s ss) (hl : ss.length ≤ 1048576) (hc : ∀ x ∈ ss, SlR (fun b => ¬ oB s b) w x (c x)) :
    Calls Tryz.prog F.slices_SortFunc_sl_sl_int_sl_int #[s.v, .func (.func F.slices_Compare_sl_int_int) #[] #[]] w (Ret [] fun w' => ∃ tt, OwnL w' base T.t_sl_int s tt ∧ tt.Perm ss ∧ (tt.map c).Pairwise (fun a b => cmpL a b ≤ 0) ∧ Step w w' s.v.ownBlock) := by
  have hf : ∀ q : List Sl, q.flatMap Flat.cells = q.map Sl.v := by
    intro q
    induction q with
    | nil => rfl
    | cons x r ih => rw [List.flatMap_cons, ih]; rfl
  have hzero : s.len = 0 → Calls Tryz.prog F.slices_SortFunc_sl_sl_int_sl_int #[s.v, .func (.func F.slices_Compare_sl_int_int) #[] #[]] w (Ret [] fun w' => ∃ tt, OwnL w' base T.t_sl_int s tt ∧ tt.Perm ss ∧ (tt.map c).Pairwise (fun a b => cmpL a b ≤ 0) ∧ Step w w' s.v.ownBlock) := fun hlen => by
    have hnil : ss = [] := List.length_eq_zero_iff.1 (by rw [← h.1]; exact hlen)
    subst hnil
    have hsv : s.v = .slice s.a 0 s.cap := by rw [← hlen]
    rw [hsv]
    refine (Srt.slices_SortFunc_none (α := Nat) s.a s.cap _ w).mono ?_
    rintro e w' ⟨rfl, rfl⟩
    exact Ret_nil ⟨[], h, List.Perm.refl _, List.Pairwise.nil, Step.refl _ _⟩
  rcases h.2.2 with ⟨hv, h0⟩ | ⟨g, cap, cur, hv, hb, hg, hle, hmx, hsz, htake⟩
  · exact hzero h0
  · by_cases h0 : s.len = 0
    · exact hzero h0
    have hpos : 0 < ss.length := by rw [← h.1]; omega
    have hsb : oB s g := by unfold oB; rw [hv]; rfl
    let α : Type := {x : Sl // x ∈ ss}
    let enc : α → Value := fun x => x.1.v
    let cf : α → α → Int := fun x y => cmpL (c x.1) (c y.1)
    have inh : Inhabited α := ⟨⟨ss[0], List.getElem_mem hpos⟩⟩
    let d : Array α := ss.attach.toArray
    have hd1 : d.toList.map enc = ss.map Sl.v := by
      show (ss.attach.toArray).toList.map (fun x => x.1.v) = _
      have e0 : ss.attach.map (fun x => x.1.v) = (ss.attach.map Subtype.val).map Sl.v := by rw [List.map_map]; rfl
      show ss.attach.map (fun x => x.1.v) = _
      rw [e0, List.attach_map_subtype_val]
    have hds : d.size = ss.length := by show (ss.attach.toArray).size = _; simp
    have hsv : s.v = .slice (some ⟨g, 0, none⟩) d.size cap := by rw [hds, ← h.1]; exact hv
    rw [hsv]
    have hSWO : SWO (ltOf cf) := by
      refine ⟨fun x => ?_, fun x y z h1 h2 => ?_, fun x y z h1 h2 => ?_⟩
      · simp only [ltOf, cf, cmpL_zero.2 rfl]; decide
      · simp only [ltOf, cf, decide_eq_true_eq] at h1 h2 ⊢
        exact cmpL_trans h1 h2
      · simp only [ltOf, cf, decide_eq_false_iff_not] at h1 h2 ⊢
        have e1 := cmpL_neg (c x.1) (c y.1)
        have e2 := cmpL_neg (c y.1) (c z.1)
        have e3 := cmpL_neg (c x.1) (c z.1)
        have := cmpL_le_trans (a := c z.1) (b := c y.1) (c := c x.1) (by omega) (by omega)
        omega
    have hst : ∀ (m : Nat) (os : Array Obj) (dk : Array α), ∀ x ∈ ss, R (sortWorld enc w g 0 m dk os) x (c x) := fun m os dk x hx => by
      have hS : Step w (sortWorld enc w g 0 m dk os) (some g) := Step.of_grown (grownBy_sortedE enc dk)
      exact ((hc x hx).stepD hS fun b hb he => hb (by cases he; exact hsb)).any
    refine (Srt.slices_SortFunc enc (fun x => rfl) cf hSWO F.slices_Compare_sl_int_int #[] g 0 cap d w (run_callFunc (by kernel_rfl)) ?_ (holds_of_blockE enc hg (by
      rw [hd1, hds, ← hf, ← htake, h.1]; simp [Rep.sz])) (Array.getElem?_eq_some_iff.1 hg).1 (by omega)).mono ?_
    · intro m os dk hdk x y
      refine (compare_ok (hst m os dk x.1 x.2) (hst m os dk y.1 y.2)).mono ?_
      intro e w' hR
      obtain ⟨r, rfl, hr, rfl⟩ := Ret_int hR
      exact ⟨by rw [hr], 0, #[], by simp [World.drewN, grow]⟩
    · rintro e w' ⟨rfl, d', n, os, hP, hS, rfl⟩
      obtain ⟨hP1, -, hP3⟩ := hP
      have hd's : d'.size = ss.length := hP1.trans hds
      have e1 : d'.extract 0 d.size = d' := by rw [← hP1]; exact Array.extract_size
      have e2 : d.extract 0 d.size = d := Array.extract_size
      rw [e1, e2] at hP3
      have hpm : (d'.toList.map Subtype.val).Perm ss := by
        have := hP3.map Subtype.val
        have e3 : d.toList.map Subtype.val = ss := by
          show (ss.attach.toArray).toList.map Subtype.val = ss
          exact List.attach_map_subtype_val ss
        rwa [e3] at this
      refine Ret_nil ⟨d'.toList.map Subtype.val, ⟨?_, ?_⟩, hpm, ?_, Step.of_grown (grownBy_sortedE enc d')⟩
      · rw [hpm.length_eq]; exact h.1
      · unfold Go.GX.Own
        rw [hf, h.1, hsv, List.map_map]
        have := ownsRow_sortedE enc (w := w) (base := base) (g := g) (cap := cap) (n := n) (k := d.size) (e := T.t_sl_int) (os := os) (cur := cur) (d := d') hP1 hb hg (by rw [hds, ← h.1]; exact hle) hmx hsz
        rw [← hds]
        exact this
      · rw [List.map_map, List.pairwise_map, List.pairwise_iff_getElem]
        intro i j hi hj hij
        have hi' : i < d'.size := by simpa using hi
        have hj' : j < d'.size := by simpa using hj
        have := hS i j (Nat.zero_le _) hij (by omega)
        rw [getElem!_pos d' i hi', getElem!_pos d' j hj'] at this
        simp only [ltOf, cf, decide_eq_false_iff_not] at this
        have e3 := cmpL_neg (c d'[j].1) (c d'[i].1)
        simp only [Function.comp_apply, Array.getElem_toList]
        omega

theorem equal_ok {w : World} {s t : Sl} {a b : List Int} (ha : R w s a) (hb : R w t b) :
    Calls Tryz.prog F.slices_Equal_sl_int_int #[s.v, t.v] w (Ret [.at .bool] fun (x : Bool) w' => x = decide (a = b) ∧ Ext w w') := by
  refine C_slices_Equal_sl_int_int ?_
  unfold V_slices_Equal_sl_int_int
  rw [ha.len, hb.len]
  refine cond_ne (fun hne => ⟨?_, Ext.refl _⟩) (fun heq => ?_)
  · have : a ≠ b := fun he => hne (by rw [he])
    simp [this]
  have hl : a.length = b.length := by have : ((a.length : Nat) : Int) = (b.length : Nat) := heq; omega
  refine ⟨IN a.length fun i w' => Ext w w' ∧ a.take i = b.take i, MN a.length, IN_zero ⟨Ext.refl _, by simp⟩, ?_⟩
  rintro _ w1 ⟨i, rfl, hi, hE1, hI⟩
  intros
  refine cond_dec (fun hlt => ?_) (fun hge => ?_)
  · have hi' : i < a.length := by omega
    have hi2 : i < b.length := by omega
    refine (ha.ext hE1).ixI hi' fun q _ hc => LD_int hc ?_
    refine (hb.ext hE1).ixI hi2 fun q _ hc => LD_int hc ?_
    intro w2 hE2
    refine cond_ne (fun hne => ⟨?_, hE1.trans hE2⟩) (fun heq2 => ?_)
    · have : a ≠ b := fun he => by subst he; exact hne rfl
      simp [this]
    · have he : a[i] = b[i] := heq2
      exact IN_next ha.le hi' ⟨hE1.trans hE2, by rw [List.take_succ_eq_append_getElem hi', List.take_succ_eq_append_getElem hi2, hI, he]⟩
  · have : i = a.length := by omega
    subst this
    rw [List.take_length, hl, List.take_length] at hI
    exact ⟨by simp [hI], hE1⟩

/-- Rows that lie apart, told by their slices. -/
def Apt (r q : Sl) : Prop := ∀ k, r.v.ownBlock = some k → q.v.ownBlock ≠ some k

theorem Apt.symm {r q : Sl} (h : Apt r q) : Apt q r := fun k hk hk' => h k hk' hk

structure RowsC (w : World) (base : Nat) (s : Sl) (ss : List Sl) (c : Sl → List Int) : Prop where
  own : OwnL w base T.t_sl_int s ss
  row : ∀ x ∈ ss, OwnL w base T.t_int x (c x)
  apart : ss.Pairwise Apt

theorem RowsC.of {w : World} {base : Nat} {s : Sl} {ss : List Sl} {L : List (List Int)} (h : RowsD w base T.t_int T.t_sl_int s L ss) : ∃ c, ss.map c = L ∧ RowsC w base s ss c := by
  have hl := h.len
  have hrow : ∀ i (h1 : i < ss.length) (h2 : i < L.length), OwnL w base T.t_int ss[i] L[i] := fun i h1 h2 => h.row i _ _ (by simp [h1]) (by simp [h2])
  have key : ∀ x : Sl, ∃ l : List Int, ∀ i (h1 : i < ss.length), ss[i] = x → l = L[i]'(by omega) := fun x => by
    by_cases hx : ∃ i, ∃ h1 : i < ss.length, ss[i] = x
    · obtain ⟨i, h1, rfl⟩ := hx
      refine ⟨L[i]'(by omega), fun j h2 he => ?_⟩
      have a1 := hrow i h1 (by omega)
      have a2 := hrow j h2 (by omega)
      rw [he] at a2
      exact own_fun a1 a2
    · exact ⟨[], fun i h1 he => absurd ⟨i, h1, he⟩ hx⟩
  obtain ⟨c, hc⟩ := Classical.axiomOfChoice key
  refine ⟨c, ?_, h.own, fun x hx => ?_, ?_⟩
  · apply List.ext_getElem (by simp [hl])
    intro i h1 h2
    rw [List.getElem_map]
    exact hc _ i (by simpa using h1) rfl
  · obtain ⟨i, hi, rfl⟩ := List.mem_iff_getElem.1 hx
    rw [hc _ i hi rfl]
    exact hrow i hi (by omega)
  · rw [List.pairwise_iff_getElem]
    intro i j hi hj hij k hk
    exact h.apart i j _ _ (by simp [hi]) (by simp [hj]) (by omega) k hk

theorem RowsC.to {w : World} {base : Nat} {s : Sl} {ss : List Sl} {c : Sl → List Int} (h : RowsC w base s ss c) : RowsD w base T.t_int T.t_sl_int s (ss.map c) ss := by
  refine ⟨h.own, by simp, fun i r l hr hl => ?_, fun i j r q hr hq hij k hk => ?_⟩
  · obtain ⟨hi, rfl⟩ := List.getElem?_eq_some_iff.1 hr
    obtain ⟨h2, rfl⟩ := List.getElem?_eq_some_iff.1 hl
    rw [List.getElem_map]
    exact h.row _ (List.getElem_mem hi)
  · obtain ⟨hi, rfl⟩ := List.getElem?_eq_some_iff.1 hr
    obtain ⟨hj, rfl⟩ := List.getElem?_eq_some_iff.1 hq
    rcases Nat.lt_or_gt_of_ne hij with h1 | h1
    · exact List.pairwise_iff_getElem.1 h.apart i j hi hj h1 k hk
    · exact (List.pairwise_iff_getElem.1 h.apart j i hj hi h1).symm k hk

theorem RowsC.off {w : World} {base : Nat} {s : Sl} {ss : List Sl} {c : Sl → List Int} (h : RowsC w base s ss c) {x : Sl} (hx : x ∈ ss) {b : Nat} (hb : oB x b) : ¬ oB s b := fun he => by
  obtain ⟨c1, e1⟩ := (h.row x hx).type hb
  obtain ⟨c2, e2⟩ := h.own.type he
  rw [e1] at e2
  exact absurd (Obj.cells.inj (Option.some.inj e2)).2.1 (by decide)

theorem RowsC.rd {w : World} {base : Nat} {s : Sl} {ss : List Sl} {c : Sl → List Int} (h : RowsC w base s ss c) (h64 : ∀ x ∈ ss, ∀ y ∈ c x, I64 y) {x : Sl} (hx : x ∈ ss) : SlR (fun b => ¬ oB s b) w x (c x) :=
  ((h.row x hx).repB (h64 x hx)).weak (fun b hb _ => h.off hx hb) RepP.pos

/-- The rows behind a change of the slice that holds them. -/
theorem RowsC.chg {w w' : World} {base : Nat} {s r : Sl} {ss tt : List Sl} {c : Sl → List Int} (h : RowsC w base s ss c) (hC : Chg w w' (oB s)) (hO : OwnL w' base T.t_sl_int r tt) (hm : ∀ x ∈ tt, x ∈ ss) (hap : tt.Pairwise Apt) : RowsC w' base r tt c :=
  ⟨hO, fun x hx => (h.row x (hm x hx)).chg hC fun b hb => h.off (hm x hx) hb, hap⟩

theorem sortedLists_ok {w : World} {base : Nat} {s : Sl} {L : List (List Int)} {ss : List Sl} (h : RowsD w base T.t_int T.t_sl_int s L ss) (h64 : ∀ r ∈ L, ∀ x ∈ r, I64 x) (hl : L.length ≤ 1048576) :
    Calls Tryz.prog F.i_sortedLists #[s.v] w (Ret [.at .sl] fun (r : Sl) w' => Chg w w' (oB s) ∧ ∃ A tt, RowsD w' base T.t_int T.t_sl_int r A tt ∧ A.Pairwise (fun a b => cmpL a b < 0) ∧ (∀ x, x ∈ A ↔ x ∈ L) ∧ A.length ≤ L.length) := by
  obtain ⟨c, hcL, hR⟩ := RowsC.of h
  have hlen := h.len
  have h64' : ∀ x ∈ ss, ∀ y ∈ c x, I64 y := fun x hx y hy => h64 (c x) (by rw [← hcL]; exact List.mem_map.2 ⟨x, hx, rfl⟩) y hy
  refine C_i_sortedLists ?_
  unfold V_i_sortedLists
  refine call (sortRows_ok h.own (by omega) fun x hx => hR.rd h64' hx) ?_
  rintro w1 ⟨tt, hO1, hp, hs, hst⟩
  have hC1 : Chg w w1 (oB s) := .of_step hst fun k hk => hk
  have hR1 : RowsC w1 base s tt c := hR.chg hC1 hO1 (fun x hx => hp.mem_iff.1 hx) (hp.symm.pairwise hR.apart fun h => h.symm)
  have htl : tt.length = ss.length := hp.length_eq
  have h641 : ∀ x ∈ tt, ∀ y ∈ c x, I64 y := fun x hx => h64' x (hp.mem_iff.1 hx)
  refine call (compactFuncS_ok (c := c) hO1 (by omega) fun x hx y hy w' hC => ?_) ?_
  · refine CALLV_mk (by kernel_rfl) ?_
    exact equal_ok ((hR1.rd h641 hx).chg hC fun b hb _ => hb).any ((hR1.rd h641 hy).chg hC fun b hb _ => hb).any
  · rintro r w2 ⟨hC2, hO2, hra⟩
    have hsub := compS_sub c tt (b := tt.length) (Nat.le_refl _)
    rw [List.take_length] at hsub
    have hR2 : RowsC w2 base r (compS c tt tt.length) c := hR1.chg hC2 hO2 (fun x hx => hsub.subset hx) (hR1.apart.sublist hsub)
    refine ⟨hC1.trans hC2, _, _, hR2.to, compS_rise hs (Nat.le_refl _), fun x => ?_, ?_⟩
    · rw [compS_mem (Nat.le_refl _), List.take_length, ← hcL]
      exact (hp.map c).mem_iff
    · rw [List.length_map]
      have := hsub.length_le
      omega

end Go.Proofs.YtaeledhbkdakcaaGreatDoor
end

section
/- Arguments that come in, read as data: from the statements' own reading of memory to the rules' reading. No program is named here. -/
namespace Go.GX
open Go.RowKit Go.WideShapes Go.ChangeShapes Go.ChangeAt Go.Deep

/-- Whatever the statements read at type t is data of α in memory. -/
def Reads (P : Program) (t : TypeId) (α : Type) [Rep α] : Prop :=
  ∀ {H : Type} {enc : TypeId × Value → H} {w : World} {base : Nat} {spare : Nat → Bool} {held : Bool} {fuel : Nat} {cs : List Value} {x : DataW H × List MemPlace},
    DataW.trod enc P w base spare held fuel t cs = some x → ∃ a : α, Rep.rep (fun _ => True) w cs a

theorem Reads.int {P : Program} {t : TypeId} (ht : P.underlying t = some (.int .i64)) : Reads P t Int := fun h => by
  obtain ⟨n, rfl, _, hn⟩ := DataW.trod_int ht h
  exact ⟨n, rfl, bounds_i64 hn⟩

theorem Reads.slice {P : Program} {t e : TypeId} {α : Type} [RepP α] (ht : P.underlying t = some (.slice e)) (hc : P.cellsOf e = Rep.sz α) (he : Reads P e α) : Reads P t (List α) := by
  intro H enc w base spare held fuel cs x h
  rcases open_slice ht h with ⟨rfl, _⟩ | ⟨a, len, cap, m, n, D, Pl, rfl, hb, hl, hm, hmm, _, hx⟩
  · exact ⟨[], ⟨none, 0, 0⟩, rfl, rfl, ⟨Nat.le_refl _, Nat.zero_le _⟩, fun i x hx => by simp at hx⟩
  · have hlm : len ≤ m := by rw [hmm]; split <;> omega
    have hall : ∀ i : Fin len, ∃ z : α, ∃ cs', Rep.rep (fun _ => True) w cs' z ∧ ∀ j v, cs'[j]? = some v → w.cell? (a.add (i.1 * Rep.sz α + j)) = some v := fun i => by
      obtain ⟨cs', h1, h2⟩ := hx i.1 (by omega)
      obtain ⟨z, hz⟩ := he h2
      refine ⟨z, cs', hz, fun j v hj => ?_⟩
      obtain ⟨_, hlen, hcell⟩ := World.cells?_some h1
      have hj' : j < cs'.length := (List.getElem?_eq_some_iff.1 hj).1
      have := hcell j (by omega)
      rw [hj, add_add, hc] at this
      exact this
    refine ⟨List.ofFn fun i => (hall i).choose, ⟨some a, len, cap⟩, rfl, by simp, ⟨hl, by simpa [maxLen] using hm⟩, fun i x hx => ?_⟩
    rw [List.getElem?_ofFn] at hx
    split at hx
    · rename_i hi
      simp at hx
      subst hx
      obtain ⟨cs', h1, h2⟩ := (hall ⟨i, hi⟩).choose_spec
      exact ⟨a, cs', rfl, trivial, h1, h2⟩
    · cases hx

/-- A struct type whose fields have these types, each one cell, one after the other. -/
def fieldsB (P : Program) (t : TypeId) (ts : List TypeId) : Bool :=
  (match P.underlying t with | some (.struct fs) => fs.toList.map (fun f => (f.type, f.offset)) == ts.zipIdx | _ => false) && ts.all (fun u => P.cellsOf u == 1) && P.cellsOf t == ts.length

theorem fieldsB_struct {P : Program} {t : TypeId} {ts : List TypeId} (h : fieldsB P t ts = true) :
    ∃ fs, P.underlying t = some (.struct fs) ∧ fs.toList.map (fun f => (f.type, f.offset)) = ts.zipIdx ∧ (∀ u ∈ ts, P.cellsOf u = 1) ∧ P.cellsOf t = ts.length := by
  simp only [fieldsB, Bool.and_eq_true, List.all_eq_true, beq_iff_eq] at h
  obtain ⟨⟨h1, h2⟩, h3⟩ := h
  cases hu : P.underlying t with
  | none => rw [hu] at h1; cases h1
  | some u =>
    rw [hu] at h1
    cases u with
    | struct fs => exact ⟨fs, rfl, by simpa using h1, h2, h3⟩
    | _ => cases h1

theorem trod_fields {P : Program} {t : TypeId} {ts : List TypeId} (h : fieldsB P t ts = true) {H : Type} {enc : TypeId × Value → H} {w : World} {base : Nat} {spare : Nat → Bool} {held : Bool} {fuel : Nat} {cs : List Value} {x : DataW H × List MemPlace}
    (hx : DataW.trod enc P w base spare held fuel t cs = some x) : cs.length = ts.length ∧ ∀ (i : Nat) (u : TypeId), ts[i]? = some u → ∃ v n y, cs[i]? = some v ∧ DataW.trod enc P w base spare held n u [v] = some y := by
  obtain ⟨fs, hu, hm, h1, hc⟩ := fieldsB_struct h
  obtain ⟨xs, n, _, _, hl, hlen, hf⟩ := DataW.trod_struct hu hx
  refine ⟨hl.trans hc, fun i u hi => ?_⟩
  have hi' : i < ts.length := (List.getElem?_eq_some_iff.1 hi).1
  have hfl : fs.size = ts.length := by have := congrArg List.length hm; simpa using this
  have hg : (fs.toList.map (fun f => (f.type, f.offset)))[i]? = some (u, i) := by rw [hm]; simp [List.getElem?_zipIdx, hi]
  have hif : i < fs.size := by omega
  have hfi : fs[i]? = some fs[i] := by simp [hif]
  rw [List.getElem?_map] at hg
  simp [hif] at hg
  have := hf i fs[i] hfi
  have hci : i < cs.length := by omega
  rw [hg.1, hg.2, h1 u (List.mem_of_getElem? hi), List.drop_eq_getElem_cons hci, List.take_succ_cons, List.take_zero] at this
  refine ⟨cs[i], n, xs[i]'(by omega), by simp [hci], ?_⟩
  rw [this]; simp

theorem Reads.pair {P : Program} {t u0 u1 : TypeId} (hf : fieldsB P t [u0, u1] = true) (h0 : Reads P u0 Int) (h1 : Reads P u1 Int) : Reads P t (Int × Int) := fun h => by
  obtain ⟨hl, hx⟩ := trod_fields hf h
  obtain ⟨v0, n0, y0, hv0, ht0⟩ := hx 0 u0 rfl
  obtain ⟨v1, n1, y1, hv1, ht1⟩ := hx 1 u1 rfl
  obtain ⟨a, ha, hA⟩ := h0 ht0
  obtain ⟨b, hb, hB⟩ := h1 ht1
  simp only [List.cons.injEq, and_true] at ha hb
  subst ha; subst hb
  refine ⟨(a, b), ?_, hA, hB⟩
  apply List.ext_getElem?
  intro i
  match i with
  | 0 => simpa using hv0
  | 1 => simpa using hv1
  | i + 2 => simp at hl; simp [hl]

/-- Arguments read again behind a call that wrote nothing of theirs. -/
theorem trodAll_stays {P : Program} (hl : laidOutB P = true) {H : Type} {enc : TypeId × Value → H} {W W' : World} (hb : Below W.heap.size W W') : ∀ (ts : List TypeId) (vs : List Value) (ds : List (DataW H)) (p : List MemPlace),
    (ts.all fun t => P.readableRec t && decide (t < P.types.size)) = true → DataW.TrodAll enc P W 0 (fun _ => true) true ts vs ds p → DataW.TrodAll enc P W' 0 (fun b => decide (b < W.heap.size)) true ts vs ds p
  | [], vs, ds, p, _, h => by
    obtain ⟨rfl, rfl, rfl⟩ := trodAll_nil h
    exact trodAll_mk0
  | t :: ts, vs, ds, p, ha, h => by
    simp only [List.all_cons, Bool.and_eq_true, decide_eq_true_eq] at ha
    obtain ⟨v, vs', d, ds', p', q', rfl, rfl, rfl, h1, h2⟩ := trodAll_cons h
    refine trodAll_cons_mk (Below.trod hl ha.1.1 ha.1.2 h1 hb ?_) (trodAll_stays hl hb ts vs' ds' q' ha.2 h2)
    obtain ⟨m, hm⟩ := h1
    exact DataW.trod_lt m _ _ _ hm

end Go.GX
end

section
/- The laws' arguments read as data: the types of this program. -/
namespace Go.Proofs.YtaeledhbkdakcaaGreatDoor
open Go.GX Go.RowKit
set_option maxRecDepth 100000

theorem laidOut : laidOutB Tryz.prog = true := by kernel_rfl

variable {H : Type} {enc : TypeId × Value → H} {w : World} {base b0 : Nat} {spare : Nat → Bool} {held : Bool} {r : Go.Reach} {v : Value} {d : DataW H} {p : List MemPlace}

end Go.Proofs.YtaeledhbkdakcaaGreatDoor
end

section
/- Problems as arguments: read, counted, copied, held against each other, marked. -/
namespace Go.Proofs.YtaeledhbkdakcaaGreatDoor
open Go.GX Go.RowKit
set_option maxRecDepth 100000

structure Prob where
  labels : Int
  degree : Int
  nodes : List (List Int)
  edges : List (List Int)

/-- The slices of a problem read as its configurations. -/
structure RProb (w : World) (c d : Sl) (p : Prob) : Prop where
  labels : I64 p.labels
  degree : I64 p.degree
  nodes : R w c p.nodes
  edges : R w d p.edges

theorem RProb.ext {w w' : World} {c d : Sl} {p : Prob} (h : RProb w c d p) (hE : Ext w w') : RProb w' c d p := ⟨h.labels, h.degree, h.nodes.ext hE, h.edges.ext hE⟩

def SmallP (p : Prob) : Prop := SmallM p.nodes ∧ SmallM p.edges

theorem LD_iiss {w : World} {p : Addr} {t : TypeId} {x y : Int} {z u : Sl} {r : List Value} {K : Int → Int → Sl → Sl → Prop} (hb : Box w p t (.int .i64 x :: .int .i64 y :: z.v :: u.v :: r)) (hk : K x y z u) : LD [.int .i64, .int .i64, .sl, .sl] p w K := by
  refine ⟨[.int .i64 x, .int .i64 y, z.v, u.v], rfl, fun i v hv => ?_, hk⟩
  match i, hv with
  | 0, hv => exact hb.cell (i := 0) hv
  | 1, hv => exact hb.cell (i := 1) hv
  | 2, hv => exact hb.cell (i := 2) hv
  | 3, hv => exact hb.cell (i := 3) hv
  | i + 4, hv => simp at hv
theorem LD_bs3 {w : World} {p : Addr} {t : TypeId} {x : Sl} {v0 v1 v2 : Value} {r : List Value} {K : Sl → Prop} (hb : Box w p t (v0 :: v1 :: v2 :: x.v :: r)) (hk : K x) : LD [.sl] (p.add 3) w K := LD_sl (hb.cell (i := 3) rfl) hk
theorem one4p (x y : Int) (z u : Sl) : ∀ v ∈ [Value.int .i64 x, .int .i64 y, z.v, u.v], v.oneCell' = true := by intro v hv; simp at hv; rcases hv with rfl | rfl | rfl | rfl <;> rfl


/-- A problem of the call's own: its lists of configurations lie apart. -/
structure OwnProb (w : World) (lo mid hi : Nat) (z u : Sl) (p : Prob) : Prop where
  nodes : Own2 w lo T.t_int T.t_sl_int z p.nodes
  edges : Own2 w mid T.t_int T.t_sl_int u p.edges
  mnodes : MIntSS w z lo mid
  medges : MIntSS w u mid hi
  lom : lo ≤ mid
  mhi : mid ≤ hi
  top : hi ≤ w.heap.size

theorem OwnProb.ext {w w' : World} {lo mid hi : Nat} {z u : Sl} {p : Prob} (h : OwnProb w lo mid hi z u p) (hE : Ext w w') : OwnProb w' lo mid hi z u p :=
  ⟨h.nodes.ext hE, h.edges.ext hE, h.mnodes.ext hE, h.medges.ext hE, h.lom, h.mhi, Nat.le_trans h.top hE.size_le⟩
theorem OwnProb.prob {w w0 : World} {lo mid hi : Nat} {c d z u : Sl} {p : Prob} (h : OwnProb w lo mid hi z u p) (h0 : RProb w0 c d p) : RProb w z u p :=
  ⟨h0.labels, h0.degree, h.nodes.rep (flat_okII h0.nodes), h.edges.rep (flat_okII h0.edges)⟩

theorem eqProblem_ok {w : World} {c d x y : Sl} {p : Prob} (h : RProb w c d p) (h' : RProb w x y p) :
    Calls Tryz.prog F.l_eqProblem #[.agg #[.int .i64 p.labels, .int .i64 p.degree, c.v, d.v], .agg #[.int .i64 p.labels, .int .i64 p.degree, x.v, y.v]] w (Ret [.at .bool] fun (r : Bool) w' => r = true ∧ Ext w w') := by
  refine C_l_eqProblem ?_
  unfold V_l_eqProblem
  refine NEW_intro fun pa w1 hp1 hs1 hE1 hb1 => ?_
  refine NEW_intro fun pb w2 hp2 hs2 hE2 hb2 => ?_
  have ha := hb1.ext hE2
  have hE := hE1.trans hE2
  refine LD_bi0 ha (LD_bi0 hb2 (cond_ne (fun h => absurd rfl h) (fun _ => LD_bi1 ha (LD_bi1 hb2 (cond_ne (fun h => absurd rfl h) (fun _ => LD_bs2 ha (LD_bs2 hb2 ?_)))))))
  refine call (eqIntSS_ok (h.nodes.ext hE) (h'.nodes.ext hE)) ?_
  rintro _ w3 ⟨rfl, hE3⟩
  refine cond_f (by simp) (LD_bs3 (ha.ext hE3) (LD_bs3 (hb2.ext hE3) ?_))
  refine call (eqIntSS_ok (h.edges.ext (hE.trans hE3)) (h'.edges.ext (hE.trans hE3))) ?_
  rintro _ w4 ⟨rfl, hE4⟩
  exact cond_f (by simp) ⟨rfl, (hE.trans hE3).trans hE4⟩

variable {H : Type} {enc : TypeId × Value → H} {w : World} {base b0 : Nat} {spare : Nat → Bool} {held : Bool} {r : Go.Reach} {v : Value} {d : DataW H} {p : List MemPlace}

/-! ### What is asked of a problem -/

structure PGood (p : Prob) : Prop where
  lab : 1 ≤ p.labels ∧ p.labels ≤ 8
  deg : 1 ≤ p.degree ∧ p.degree ≤ 4
  nodes : ConfOk p.nodes p.degree p.labels
  edges : ConfOk p.edges 2 p.labels

theorem IsProblem_ok {w : World} {c d : Sl} {p : Prob} (h : RProb w c d p) :
    Calls Tryz.prog F.i_IsProblem #[.agg #[.int .i64 p.labels, .int .i64 p.degree, c.v, d.v]] w (Ret [.at .bool] fun (x : Bool) w' => (x = true ↔ PGood p) ∧ Ext w w') := by
  refine C_i_IsProblem ?_
  unfold V_i_IsProblem
  refine NEW_intro fun pa w1 hp hs hE hb => LD_bi0 hb ?_
  replace h := h.ext hE
  have hno : ∀ {w' : World}, Ext w w' → ¬ PGood p → (false = true ↔ PGood p) ∧ Ext w w' := fun h1 h2 => ⟨by simp [h2], h1⟩
  refine call (within_ok _ _ _ _) ?_
  rintro _ _ ⟨rfl, rfl⟩
  refine cond_b (fun ht => LD_bi1 hb ?_) (fun hf => hno hE fun hg => inR_false hf hg.lab)
  have hlab := inR_true ht
  refine call (within_ok _ _ _ _) ?_
  rintro _ _ ⟨rfl, rfl⟩
  refine cond_b (fun ht2 => LD_bs2 hb (LD_bi1 hb (LD_bi0 hb ?_))) (fun hf => hno hE fun hg => inR_false hf hg.deg)
  have hdeg := inR_true ht2
  refine call (configurationsOk_ok h.nodes hlab) ?_
  rintro y w4 ⟨hy, hE4⟩
  replace hE := hE.ext hE4
  replace h := h.ext hE4
  replace hb := hb.ext hE4
  refine cond_b (fun ht3 => LD_bs3 hb (LD_bi0 hb ?_)) (fun hf => hno hE fun hg => by rw [hy.2 hg.nodes] at hf; cases hf)
  refine call (configurationsOk_ok h.edges hlab) ?_
  rintro z w5 ⟨hz, hE5⟩
  exact ⟨⟨fun ht4 => ⟨hlab, hdeg, hy.1 ht3, hz.1 ht4⟩, fun hg => hz.2 hg.edges⟩, hE.trans hE5⟩


theorem prGood_ok {w : World} {c d : Sl} {p : Prob} (h : RProb w c d p) :
    Calls Tryz.prog F.s_prGood #[.agg #[.int .i64 p.labels, .int .i64 p.degree, c.v, d.v]] w (Ret [.at .bool] fun (x : Bool) w' => (x = true ↔ PGood p) ∧ Ext w w') := by
  refine C_s_prGood ?_
  unfold V_s_prGood
  refine NEW_intro fun pa w1 hp hs hE hb => LD_bi0 hb ?_
  replace h := h.ext hE
  have hno : ∀ {w' : World}, Ext w w' → ¬ PGood p → (false = true ↔ PGood p) ∧ Ext w w' := fun h1 h2 => ⟨by simp [h2], h1⟩
  refine call (l1In_ok _ _ _ _) ?_
  rintro _ _ ⟨rfl, rfl⟩
  refine cond_b (fun ht => LD_bi1 hb ?_) (fun hf => hno hE fun hg => inR_false hf hg.lab)
  have hlab := inR_true ht
  refine call (l1In_ok _ _ _ _) ?_
  rintro _ _ ⟨rfl, rfl⟩
  refine cond_b (fun ht2 => LD_bs2 hb (LD_bi1 hb (LD_bi0 hb ?_))) (fun hf => hno hE fun hg => inR_false hf hg.deg)
  have hdeg := inR_true ht2
  refine call (prLists_ok h.nodes hlab) ?_
  rintro y w4 ⟨hy, hE4⟩
  replace hE := hE.ext hE4
  replace h := h.ext hE4
  replace hb := hb.ext hE4
  refine cond_b (fun ht3 => LD_bs3 hb (LD_bi0 hb ?_)) (fun hf => hno hE fun hg => by rw [hy.2 hg.nodes] at hf; cases hf)
  refine call (prLists_ok h.edges hlab) ?_
  rintro z w5 ⟨hz, hE5⟩
  exact ⟨⟨fun ht4 => ⟨hlab, hdeg, hy.1 ht3, hz.1 ht4⟩, fun hg => hz.2 hg.edges⟩, hE.trans hE5⟩


/-! ### Configurations that are allowed -/

def NodeOk (p : Prob) (l : List Int) : Prop := sortI l ∈ p.nodes
def EdgeIs (p : Prob) (a b : Int) : Prop := sortI [a, b] ∈ p.edges

theorem sort2 (a b : Int) : sortI [a, b] = if a ≤ b then [a, b] else [b, a] := by
  have hp := sortI_perm [a, b]
  have hs := sortI_sorted [a, b]
  refine (hp.trans ?_).eq_of_pairwise (fun a b _ _ h1 h2 => Int.le_antisymm h1 h2) hs ?_
  · split
    · exact List.Perm.refl _
    · exact List.Perm.swap _ _ _
  · split
    · simp; omega
    · simp; omega

theorem node_ok {w : World} {c d t : Sl} {p : Prob} {l : List Int} (h : RProb w c d p) (hs : SmallP p) (hg : PGood p) (hl : R w t l) (hll : l.length ≤ 1048576) :
    Calls Tryz.prog F.i_Problem_node #[.agg #[.int .i64 p.labels, .int .i64 p.degree, c.v, d.v], t.v] w (Ret [.at .bool] fun (x : Bool) w' => (x = true ↔ NodeOk p l) ∧ Ext w w') := by
  refine C_i_Problem_node ?_
  unfold V_i_Problem_node
  refine NEW_intro fun pa w1 hp hs1 hE hb => LD_bs2 hb ?_
  replace h := h.ext hE
  replace hl := hl.ext hE
  refine call (hasConfiguration_ok h.nodes hl hg.nodes.lt hs.1.1 hll) ?_
  rintro x w2 ⟨rfl, hE2⟩
  exact ⟨by simp [NodeOk], hE.trans hE2⟩

theorem edge_ok {w : World} {c d : Sl} {p : Prob} {a b : Int} (h : RProb w c d p) (hs : SmallP p) (hg : PGood p) (ha : I64 a) (hb0 : I64 b) :
    Calls Tryz.prog F.i_Problem_edge #[.agg #[.int .i64 p.labels, .int .i64 p.degree, c.v, d.v], .int .i64 a, .int .i64 b] w (Ret [.at .bool] fun (x : Bool) w' => (x = true ↔ EdgeIs p a b) ∧ Ext w w') := by
  refine C_i_Problem_edge ?_
  unfold V_i_Problem_edge
  refine NEW_intro fun pa w1 hp hs1 hE hb => LD_bs3 hb ?_
  replace h := h.ext hE
  refine RUN_lits slt_int [a, b] (by simp) (by simp) rfl rfl fun r w2 hE2 hO2 => ?_
  have hE12 := hE.trans hE2
  refine call (hasConfiguration_ok (h.edges.ext hE2) (hO2.rep (by intro x hx; simp at hx; rcases hx with rfl | rfl <;> assumption)).any hg.edges.lt hs.2.1 (by simp)) ?_
  rintro x w3 ⟨rfl, hE3⟩
  exact ⟨by simp [EdgeIs], hE12.trans hE3⟩

theorem prNode_ok {w : World} {c d t : Sl} {p : Prob} {l : List Int} (h : RProb w c d p) (hl : R w t l) (hll : l.length ≤ 1048576) :
    Calls Tryz.prog F.s_prNode #[.agg #[.int .i64 p.labels, .int .i64 p.degree, c.v, d.v], t.v] w (Ret [.at .bool] fun (x : Bool) w' => (x = true ↔ NodeOk p l) ∧ Ext w w') := by
  refine C_s_prNode ?_
  unfold V_s_prNode
  refine NEW_intro fun pa w1 hp hs1 hE hb => ?_
  intro w2 hE2 _
  have hE12 := hE.trans hE2
  refine LD_bs2 (hb.ext hE2) ⟨Ext.refl _, ?_⟩
  refine call (prSorted_ok (hl.ext hE12) hll) ?_
  rintro r w3 ⟨hE3, hO3⟩
  refine ⟨hE3, ?_⟩
  refine call (prHas_ok (h.nodes.ext (hE12.trans hE3)) (hO3.rep (sortI_I64 (flat_ok hl))).any) ?_
  rintro x w4 ⟨rfl, hE4⟩
  exact ⟨hE3.trans hE4, by simp [NodeOk], hE12.trans (hE3.trans hE4)⟩

theorem l1Least_ok (a b : Int) (w : World) : Calls Tryz.prog F.s_l1Least #[.int .i64 a, .int .i64 b] w (Ret [.at (.int .i64)] fun (r : Int) w' => r = (if a < b then a else b) ∧ w = w') := by
  refine C_s_l1Least ?_
  unfold V_s_l1Least
  exact cond_dec (fun h => ⟨by rw [if_pos h], rfl⟩) (fun h => ⟨by rw [if_neg h], rfl⟩)

theorem most2b (a b : Int) : sortI [a, b] = [if a < b then a else b, most2 a b] := by
  rw [sort2]
  unfold most2
  by_cases h1 : a < b
  · rw [if_pos (by omega), if_pos h1, if_neg (by omega)]
  · by_cases h2 : a = b
    · subst h2; simp
    · rw [if_neg (by omega), if_neg h1, if_pos (by omega)]

theorem prEdge_ok {w : World} {c d : Sl} {p : Prob} {a b : Int} (h : RProb w c d p) (ha : I64 a) (hb0 : I64 b) :
    Calls Tryz.prog F.s_prEdge #[.agg #[.int .i64 p.labels, .int .i64 p.degree, c.v, d.v], .int .i64 a, .int .i64 b] w (Ret [.at .bool] fun (x : Bool) w' => (x = true ↔ EdgeIs p a b) ∧ Ext w w') := by
  refine C_s_prEdge ?_
  unfold V_s_prEdge
  refine NEW_intro fun pa w1 hp hs1 hE hb => ?_
  intro w2 hE2 _
  have hE12 := hE.trans hE2
  refine LD_bs3 (hb.ext hE2) ?_
  refine call (l1Least_ok _ _ _) ?_
  rintro _ _ ⟨rfl, rfl⟩
  refine ⟨Ext.refl _, call (l1Most_ok _ _ _) ?_⟩
  rintro _ _ ⟨rfl, rfl⟩
  refine ⟨Ext.refl _, ?_⟩
  have hs2 := most2b a b
  refine RUN_lits slt_int [if a < b then a else b, most2 a b] (by simp) (by simp) rfl rfl fun r w5 hE5 hO5 => ⟨hE5, ?_⟩
  rw [← hs2] at hO5
  have hok : ∀ x ∈ sortI [a, b], I64 x := sortI_I64 (by intro x hx; simp at hx; rcases hx with rfl | rfl <;> assumption)
  refine call (prHas_ok (h.edges.ext (hE12.trans hE5)) (hO5.rep hok).any) ?_
  rintro x w6 ⟨rfl, hE6⟩
  exact ⟨hE5.trans hE6, by simp [EdgeIs], hE12.trans (hE5.trans hE6)⟩

end Go.Proofs.YtaeledhbkdakcaaGreatDoor
end

section
/- Colourings of edges, on both sides. -/
namespace Go.Proofs.YtaeledhbkdakcaaGreatDoor
open Go.GX Go.RowKit
set_option maxRecDepth 100000

def at2 (l : List (List Int)) (v i : Nat) : Int := (l.getD v []).getD i 0

/-- As many rows as nodes, each as long as the node has ports. -/
def SameRows (E : List (List (Int × Int))) (l : List (List Int)) : Prop := l.length = E.length ∧ ∀ v < l.length, (l.getD v []).length = (E.getD v []).length

def EdgeAt (E : List (List (Int × Int))) (l : List (List Int)) (v i : Nat) : Prop :=
  at2 l ((E.getD v []).getD i (0, 0)).1.toNat ((E.getD v []).getD i (0, 0)).2.toNat = at2 l v i

structure EdgeOk (E : List (List (Int × Int))) (l : List (List Int)) : Prop where
  rows : SameRows E l
  cols : ∀ v < l.length, AllIn (l.getD v []) 0 1000000000000 ∧ (l.getD v []).Nodup
  ends : ∀ v < l.length, ∀ i < (E.getD v []).length, EdgeAt E l v i

theorem rowD {α : Type} {l : List (List α)} {v : Nat} (hv : v < l.length) : l.getD v [] = l[v] := by
  rw [List.getD_eq_getElem?_getD, List.getElem?_eq_getElem hv]; rfl
end Go.Proofs.YtaeledhbkdakcaaGreatDoor
end

section
/- Faults of labelings, in plain words: no program in sight. -/
namespace Go.Proofs.YtaeledhbkdakcaaGreatDoor

def NodeBad (p : Prob) (L : List (List Int)) (v : Nat) : Prop := ((L.getD v []).length : Int) = p.degree ∧ ¬ NodeOk p (L.getD v [])
def endOf (E : Ends) (v k : Nat) : Int × Int := (E.getD v []).getD k (0, 0)
def PortBad (p : Prob) (E : Ends) (L : List (List Int)) (v k : Nat) : Prop := k < (E.getD v []).length ∧ isFirst v k (endOf E v k) = true ∧ ¬ EdgeIs p (at2 L v k) (at2 L (endOf E v k).1.toNat (endOf E v k).2.toNat)
def NoneAt (p : Prob) (E : Ends) (L : List (List Int)) (v : Nat) : Prop := ¬ NodeBad p L v ∧ ∀ k, ¬ PortBad p E L v k
def Clean (p : Prob) (E : Ends) (L : List (List Int)) : Prop := ∀ v < E.length, NoneAt p E L v
def FirstAt (p : Prob) (E : Ends) (L : List (List Int)) (v i : Int) : Prop := ∃ m : Nat, v = m ∧ m < E.length ∧ (∀ u < m, NoneAt p E L u) ∧
  ((i = -1 ∧ NodeBad p L m) ∨ ∃ k : Nat, i = k ∧ ¬ NodeBad p L m ∧ PortBad p E L m k ∧ ∀ j < k, ¬ PortBad p E L m j)

theorem FirstAt.bad {p : Prob} {E : Ends} {L : List (List Int)} {v i : Int} (h : FirstAt p E L v i) : ¬ Clean p E L := fun hc => by
  obtain ⟨m, _, hm, _, h⟩ := h
  obtain ⟨h1, h2⟩ := hc m hm
  rcases h with ⟨_, h⟩ | ⟨k, _, _, h, _⟩
  · exact h1 h
  · exact h2 k h

theorem FirstAt.eq {p : Prob} {E : Ends} {L : List (List Int)} {v i v' i' : Int} (h : FirstAt p E L v i) (h' : FirstAt p E L v' i') : v = v' ∧ i = i' := by
  obtain ⟨m, rfl, hm, hn, hb⟩ := h
  obtain ⟨m', rfl, hm', hn', hb'⟩ := h'
  have key : ∀ {m : Nat} {i : Int}, NoneAt p E L m → ((i = -1 ∧ NodeBad p L m) ∨ ∃ k : Nat, i = k ∧ ¬ NodeBad p L m ∧ PortBad p E L m k ∧ ∀ j < k, ¬ PortBad p E L m j) → False := by
    rintro m i ⟨h1, h2⟩ (⟨_, h⟩ | ⟨k, _, _, h, _⟩)
    · exact h1 h
    · exact h2 k h
  rcases Nat.lt_trichotomy m m' with hlt | heq | hgt
  · exact (key (hn' m hlt) hb).elim
  · subst heq
    refine ⟨rfl, ?_⟩
    rcases hb with ⟨rfl, h1⟩ | ⟨k, rfl, h1, h2, h3⟩
    · rcases hb' with ⟨rfl, _⟩ | ⟨k', rfl, h1', _⟩
      · rfl
      · exact absurd h1 h1'
    · rcases hb' with ⟨rfl, h1'⟩ | ⟨k', rfl, _, h2', h3'⟩
      · exact absurd h1' h1
      · rcases Nat.lt_trichotomy k k' with hlt | heq | hgt
        · exact absurd h2 (h3' k hlt)
        · rw [heq]
        · exact absurd h2' (h3 k' hgt)
  · exact (key (hn m' hgt) hb').elim

/-- What is asked of a labeling. -/
structure LabOk (p : Prob) (E : Ends) (L : List (List Int)) : Prop where
  rows : SameRows E L
  labs : ∀ r ∈ L, AllIn r 0 (p.labels - 1)

structure SolAsked (p : Prob) (n : Net) (L : List (List Int)) : Prop where
  prob : PGood p
  good : Good n
  lab : LabOk p n.ends L

structure AnsFF (p : Prob) (n : Net) (L : List (List Int)) (v i : Int) (b : Bool) : Prop where
  ok : b = true ↔ SolAsked p n L ∧ ¬ Clean p n.ends L
  yes : b = true → FirstAt p n.ends L v i
  no : b = false → v = 0 ∧ i = 0

theorem AnsFF.eq {p : Prob} {n : Net} {L : List (List Int)} {v i v' i' : Int} {b b' : Bool} (h : AnsFF p n L v i b) (h' : AnsFF p n L v' i' b') : v = v' ∧ i = i' ∧ b = b' := by
  have hoo : b = b' := by rw [Bool.eq_iff_iff, h.ok, h'.ok]
  subst hoo
  cases b with
  | false =>
    obtain ⟨rfl, rfl⟩ := h.no rfl
    obtain ⟨rfl, rfl⟩ := h'.no rfl
    exact ⟨rfl, rfl, rfl⟩
  | true =>
    obtain ⟨rfl, rfl⟩ := (h.yes rfl).eq (h'.yes rfl)
    exact ⟨rfl, rfl, rfl⟩

theorem AnsFF.none {p : Prob} {n : Net} {L : List (List Int)} (h : ¬ (SolAsked p n L ∧ ¬ Clean p n.ends L)) : AnsFF p n L 0 0 false := ⟨by simp only [Bool.false_eq_true, false_iff]; exact h, fun hh => (by cases hh), fun _ => ⟨rfl, rfl⟩⟩

end Go.Proofs.YtaeledhbkdakcaaGreatDoor
end

section
/- Products of problems, in plain words: no program in sight. -/
namespace Go.Proofs.YtaeledhbkdakcaaGreatDoor
open Go.GX

/-- The labels from a number on, below another one. -/
def labsFrom (a n : Nat) : List Int := (List.range (n - a)).map fun (i : Nat) => ((a + i : Nat) : Int)

theorem mem_labsFrom {a n : Nat} {x : Int} : x ∈ labsFrom a n ↔ ∃ u : Nat, x = u ∧ a ≤ u ∧ u < n := by
  unfold labsFrom
  rw [List.mem_map]
  constructor
  · rintro ⟨i, hi, rfl⟩
    rw [List.mem_range] at hi
    exact ⟨a + i, rfl, by omega, by omega⟩
  · rintro ⟨u, rfl, h1, h2⟩
    exact ⟨u - a, by rw [List.mem_range]; omega, by congr 1; omega⟩

theorem labsFrom_rise (a n : Nat) : (labsFrom a n).Pairwise (· < ·) := by
  unfold labsFrom
  rw [List.pairwise_map]
  exact List.pairwise_lt_range.imp fun h => by omega

def lastOf (c : List Int) : Nat := (c.getLastD 0).toNat

/-- The lists of labels of a length, none less than the one before it, in order. -/
def msets (n : Nat) : Nat → List (List Int)
  | 0 => [[]]
  | k + 1 => (msets n k).flatMap fun c => (labsFrom (lastOf c) n).map fun a => c ++ [a]

structure InM (n k : Nat) (c : List Int) : Prop where
  len : c.length = k
  sorted : c.Pairwise (· ≤ ·)
  labs : ∀ x ∈ c, 0 ≤ x ∧ x < n

theorem le_last {c : List Int} (h : c.Pairwise (· ≤ ·)) (h0 : ∀ x ∈ c, 0 ≤ x) : ∀ x ∈ c, x ≤ lastOf c := by
  intro x hx
  obtain ⟨i, hi, rfl⟩ := List.mem_iff_getElem.1 hx
  have e : c.getLastD 0 = c[c.length - 1]'(by omega) := by
    rw [List.getLastD_eq_getLast?, List.getLast?_eq_getElem?, List.getElem?_eq_getElem (by omega)]; rfl
  have hp := h0 _ (List.getElem_mem (show c.length - 1 < c.length by omega))
  unfold lastOf
  rw [e]
  by_cases hl : i = c.length - 1
  · subst hl; omega
  · have := List.pairwise_iff_getElem.1 h i (c.length - 1) hi (by omega) (by omega)
    omega

theorem mem_msets {n : Nat} : ∀ {k : Nat} {c : List Int}, c ∈ msets n k ↔ InM n k c
  | 0, c => by
    simp only [msets, List.mem_singleton]
    constructor
    · rintro rfl; exact ⟨rfl, List.Pairwise.nil, by simp⟩
    · intro h; exact List.eq_nil_of_length_eq_zero h.len
  | k + 1, c => by
    simp only [msets, List.mem_flatMap, List.mem_map]
    constructor
    · rintro ⟨b, hb, a, ha, rfl⟩
      have hB := mem_msets.1 hb
      obtain ⟨u, rfl, h1, h2⟩ := mem_labsFrom.1 ha
      have hle := le_last hB.sorted fun x hx => (hB.labs x hx).1
      refine ⟨by simp [hB.len], ?_, ?_⟩
      · rw [List.pairwise_append]
        exact ⟨hB.sorted, List.pairwise_singleton _ _, fun x hx y hy => by rw [List.mem_singleton.1 hy]; have := hle x hx; omega⟩
      · intro x hx
        rcases List.mem_append.1 hx with h | h
        · exact hB.labs x h
        · rw [List.mem_singleton.1 h]; omega
    · intro h
      have hne : c ≠ [] := by rintro rfl; have := h.len; simp at this
      obtain ⟨b, a, rfl⟩ : ∃ b a, c = b ++ [a] := ⟨c.dropLast, c.getLast hne, (List.dropLast_concat_getLast hne).symm⟩
      have hs := h.sorted
      rw [List.pairwise_append] at hs
      have hal := h.labs a (by simp)
      refine ⟨b, mem_msets.2 ⟨by have := h.len; simp at this; exact this, hs.1, fun x hx => h.labs x (by simp [hx])⟩, a, mem_labsFrom.2 ⟨a.toNat, by omega, ?_, by omega⟩, rfl⟩
      by_cases hb : b = []
      · subst hb; simp [lastOf]
      · have e : b.getLastD 0 = b.getLast hb := by rw [List.getLastD_eq_getLast?, List.getLast?_eq_some_getLast hb]; rfl
        have h3 := hs.2.2 (b.getLast hb) (List.getLast_mem hb) a (by simp)
        unfold lastOf
        rw [e]
        omega

theorem cmpL_snoc_left : ∀ {a b : List Int} {x y : Int}, a.length = b.length → cmpL a b < 0 → cmpL (a ++ [x]) (b ++ [y]) < 0
  | [], [], _, _, _, h => by simp [cmpL] at h
  | u :: a, v :: b, x, y, hl, h => by
    rw [cmpL] at h
    rw [List.cons_append, List.cons_append, cmpL]
    by_cases h1 : u < v
    · rw [if_pos h1]; omega
    · rw [if_neg h1] at h ⊢
      by_cases h2 : v < u
      · rw [if_pos h2] at h; omega
      · rw [if_neg h2] at h ⊢
        exact cmpL_snoc_left (by simpa using hl) h

theorem cmpL_snoc_right : ∀ {a : List Int} {x y : Int}, x < y → cmpL (a ++ [x]) (a ++ [y]) < 0
  | [], x, y, h => by simp [cmpL, h]
  | u :: a, x, y, h => by
    rw [List.cons_append, List.cons_append, cmpL, if_neg (by omega), if_neg (by omega)]
    exact cmpL_snoc_right h

theorem msets_rise (n : Nat) : ∀ k, (msets n k).Pairwise fun a b => cmpL a b < 0
  | 0 => List.pairwise_singleton _ _
  | k + 1 => by
    unfold msets
    rw [List.pairwise_flatMap]
    refine ⟨fun c _ => ?_, ?_⟩
    · rw [List.pairwise_map]
      exact (labsFrom_rise _ _).imp fun h => cmpL_snoc_right h
    · have ih := msets_rise n k
      refine ih.imp_of_mem fun {a b} ha hb hab => ?_
      intro x hx y hy
      obtain ⟨u, _, rfl⟩ := List.mem_map.1 hx
      obtain ⟨v, _, rfl⟩ := List.mem_map.1 hy
      exact cmpL_snoc_left (by rw [(mem_msets.1 ha).len, (mem_msets.1 hb).len]) hab

theorem msets_len (n : Nat) : ∀ k, (msets n k).length ≤ n ^ k
  | 0 => by simp [msets]
  | k + 1 => by
    unfold msets
    rw [List.length_flatMap]
    have ih := msets_len n k
    have hs : ∀ l : List (List Int), (l.map fun c => ((labsFrom (lastOf c) n).map fun a => c ++ [a]).length).sum ≤ l.length * n := by
      intro l
      induction l with
      | nil => simp
      | cons c l ihl =>
        have h1 : (labsFrom (lastOf c) n).length ≤ n := by simp [labsFrom]
        rw [List.map_cons, List.sum_cons, List.length_map, List.length_cons, Nat.succ_mul]
        omega
    rw [Nat.pow_succ]
    exact Nat.le_trans (hs _) (Nat.mul_le_mul_right n ih)

/-- A part of the lists in order is a list of configurations. -/
theorem conf_filter {n k : Nat} (f : List Int → Bool) : ConfOk ((msets n k).filter f) k n := by
  have hp : ((msets n k).filter f).Pairwise fun a b => cmpL a b < 0 := (msets_rise n k).filter _
  refine ⟨fun i hi => ?_, fun i hi => ?_⟩
  · have hm := (List.mem_filter.1 (List.getElem_mem hi)).1
    have hM := mem_msets.1 hm
    exact ⟨by rw [hM.len], hM.sorted, fun x hx => by have := hM.labs x hx; omega⟩
  · exact List.pairwise_iff_getElem.1 hp i (i + 1) (by omega) hi (by omega)

/-! ### Products -/

def firsts (k : Int) (c : List Int) : List Int := c.map fun a => Int.tdiv a k
def seconds (k : Int) (c : List Int) : List Int := c.map fun a => Int.tmod a k

def prodNodes (p q : Prob) : List (List Int) := (msets (p.labels * q.labels).toNat p.degree.toNat).filter fun c => decide (sortI (firsts q.labels c) ∈ p.nodes) && decide (sortI (seconds q.labels c) ∈ q.nodes)
def prodEdges (p q : Prob) : List (List Int) := (msets (p.labels * q.labels).toNat 2).filter fun c => decide (sortI (firsts q.labels c) ∈ p.edges) && decide (sortI (seconds q.labels c) ∈ q.edges)
def prodP (p q : Prob) : Prob := ⟨p.labels * q.labels, p.degree, prodNodes p q, prodEdges p q⟩

structure SpAsked (p q : Prob) (n : Net) (L : List (List Int)) : Prop where
  left : PGood p
  right : PGood q
  deg : p.degree = q.degree
  few : p.labels * q.labels ≤ 8
  good : Good n
  lab : LabOk (prodP p q) n.ends L

end Go.Proofs.YtaeledhbkdakcaaGreatDoor
end

section
/- Label maps, in plain words: no program in sight. -/
namespace Go.Proofs.YtaeledhbkdakcaaGreatDoor

/-- The images of labels. -/
def img (f l : List Int) : List Int := l.map fun a => f.getD a.toNat 0

structure MapOk (p q : Prob) (f : List Int) : Prop where
  len : (f.length : Int) = p.labels
  labs : AllIn f 0 (q.labels - 1)
  nodes : ∀ c ∈ p.nodes, sortI (img f c) ∈ q.nodes
  edges : ∀ c ∈ p.edges, sortI (img f c) ∈ q.edges

structure MlAsked (p q : Prob) (f : List Int) (n : Net) (L : List (List Int)) : Prop where
  left : PGood p
  right : PGood q
  deg : p.degree = q.degree
  map : MapOk p q f
  good : Good n
  lab : LabOk p n.ends L

theorem img2 {f c : List Int} (h : c.length = 2) : img f c = [f.getD (c[0]'(by omega)).toNat 0, f.getD (c[1]'(by omega)).toNat 0] := by
  match c, h with
  | [a, b], _ => rfl

end Go.Proofs.YtaeledhbkdakcaaGreatDoor
end

section
/- Labelings and their first faults, both sides. -/
namespace Go.Proofs.YtaeledhbkdakcaaGreatDoor
open Go.GX Go.RowKit
set_option maxRecDepth 100000

def edgeB (p : Prob) (a b : Int) : Bool := decide (sortI [a, b] ∈ p.edges)
def nodeB (p : Prob) (l : List Int) : Bool := decide (sortI l ∈ p.nodes)
theorem edgeB_iff {p : Prob} {a b : Int} : edgeB p a b = true ↔ EdgeIs p a b := by simp [edgeB, EdgeIs]
theorem nodeB_iff {p : Prob} {l : List Int} : nodeB p l = true ↔ NodeOk p l := by simp [nodeB, NodeOk]
theorem bool_of {x : Bool} {A : Prop} {b : Bool} (h : x = true ↔ A) (hb : b = true ↔ A) : x = b := by rw [Bool.eq_iff_iff, h, hb]

theorem hasLabels_ok {w : World} {c d t : Sl} {p : Prob} {l : List Int} (hg : 1 ≤ p.labels ∧ p.labels ≤ 8) (hl : R w t l) :
    Calls Tryz.prog F.i_Problem_hasLabels #[.agg #[.int .i64 p.labels, .int .i64 p.degree, c.v, d.v], t.v] w (Ret [.at .bool] fun (x : Bool) w' => (x = true ↔ AllIn l 0 (p.labels - 1)) ∧ Ext w w') := by
  refine C_i_Problem_hasLabels ?_
  unfold V_i_Problem_hasLabels
  refine NEW_intro fun pa w1 hp hs1 hE hb => LD_bi0 hb ?_
  rw [wrap_of (n := p.labels - 1) (by omega) (by omega)]
  refine call (allWithin_ok (hl.ext hE) 0 (p.labels - 1)) ?_
  rintro x w2 ⟨hx, hE2⟩
  exact ⟨hx, hE.trans hE2⟩

/-! ### The first fault -/

structure FaultIn (p : Prob) (n : Net) (L : List (List Int)) : Prop where
  prob : PGood p
  good : Good n
  lab : LabOk p n.ends L

theorem SolAsked.fin {p : Prob} {n : Net} {L : List (List Int)} (h : SolAsked p n L) : FaultIn p n L := ⟨h.prob, h.good, h.lab⟩

theorem FaultIn.row {p : Prob} {n : Net} {L : List (List Int)} (h : FaultIn p n L) {v : Nat} (hv : v < L.length) (hve : v < n.ends.length) : L[v].length = n.ends[v].length ∧ (∀ x ∈ L[v], I64 x) ∧ L[v].length ≤ 6 := by
  have h1 := h.lab.rows.2 v hv
  rw [rowD hv, rowD hve] at h1
  have h2 := h.good.deg hve
  refine ⟨h1, fun x hx => ?_, by omega⟩
  have := h.lab.labs _ (List.getElem_mem hv) x hx
  have := h.prob.lab
  unfold I64; omega

theorem edgeQ {w : World} {c d : Sl} {p : Prob} {a b : Int} (h : RProb w c d p) (hs : SmallP p) (hg : PGood p) (ha : I64 a) (hb : I64 b) : ∀ w', Ext w w' → Calls Tryz.prog F.i_Problem_edge #[.agg #[.int .i64 p.labels, .int .i64 p.degree, c.v, d.v], .int .i64 a, .int .i64 b] w' (Ret [.at .bool] fun (x : Bool) w'' => x = edgeB p a b ∧ Ext w' w'') := fun w' hE =>
  call (edge_ok (h.ext hE) hs hg ha hb) fun _ _ ⟨h1, h2⟩ => ⟨bool_of h1 edgeB_iff, h2⟩
theorem prEdgeQ {w : World} {c d : Sl} {p : Prob} {a b : Int} (h : RProb w c d p) (ha : I64 a) (hb : I64 b) : ∀ w', Ext w w' → Calls Tryz.prog F.s_prEdge #[.agg #[.int .i64 p.labels, .int .i64 p.degree, c.v, d.v], .int .i64 a, .int .i64 b] w' (Ret [.at .bool] fun (x : Bool) w'' => x = edgeB p a b ∧ Ext w' w'') := fun w' hE =>
  call (prEdge_ok (h.ext hE) ha hb) fun _ _ ⟨h1, h2⟩ => ⟨bool_of h1 edgeB_iff, h2⟩

/-! ### The statements' answers -/

end Go.Proofs.YtaeledhbkdakcaaGreatDoor
end

section
/- Label maps, both sides. -/
namespace Go.Proofs.YtaeledhbkdakcaaGreatDoor
open Go.GX Go.RowKit
set_option maxRecDepth 100000

theorem img_len (f l : List Int) : (img f l).length = l.length := by simp [img]
theorem img_I64 {f l : List Int} (hf : ∀ x ∈ f, I64 x) : ∀ x ∈ img f l, I64 x := by
  intro x hx
  obtain ⟨a, _, rfl⟩ := List.mem_map.1 hx
  by_cases h : a.toNat < f.length
  · simp [h]; exact hf _ (List.getElem_mem h)
  · rw [List.getD_eq_getElem?_getD, List.getElem?_eq_none (by omega)]; show I64 0; unfold I64; omega

theorem in_map {f : List Int} {p : Prob} (hl : (f.length : Int) = p.labels) {c : List Int} (hc : AllIn c 0 (p.labels - 1)) : ∀ x ∈ c, ∃ u : Nat, x = u ∧ u < f.length := fun x hx => by
  have := hc x hx
  exact ⟨x.toNat, by omega, by omega⟩

theorem images_ok {w : World} {s t : Sl} {f m : List Int} (hm : R w s m) (hf : R w t f) (hin : ∀ x ∈ m, ∃ u : Nat, x = u ∧ u < f.length) (hml : m.length ≤ 1048576) :
    Calls Tryz.prog F.i_images #[s.v, t.v] w (Ret [.at .sl] fun (r : Sl) w' => Ext w w' ∧ OwnL w' w.heap.size T.t_int r (img f m)) := by
  refine C_i_images ?_
  unfold V_i_images
  rw [hm.len]
  refine ⟨IN2 m.length fun i out w' => Ext w w' ∧ OwnL w' w.heap.size T.t_int out (img f (m.take i)), MN2 m.length, IN2_zero ⟨Ext.refl _, by simpa [img] using OwnL.nil _ _ _⟩, ?_⟩
  rintro out _ w2 ⟨i, rfl, hi, hE, hO⟩
  intros
  replace hf := hf.ext hE
  replace hm := hm.ext hE
  refine cond_dec (fun hlt => ?_) (fun hge => ?_)
  · have hi' : i < m.length := by omega
    refine hm.ixI hi' fun q _ hc => LD_int hc ?_
    obtain ⟨u, hu, hul⟩ := hin _ (List.getElem_mem hi')
    rw [hu]
    refine hf.ixI hul fun q h64 hc => LD_int hc ?_
    refine RUN_lit1 (α := Int) slt_int f[u] rfl (by decide) fun r w5 hE5 hO5 => ?_
    replace hE := hE.ext hE5
    replace hO := hO.ext hE5
    refine RUN_append (α := Int) slt_int hO hE.size_le (hO5.rep (by intro z hz; simp at hz; subst hz; exact h64)).any (by simp [img_len]; omega) (by simp [img_len, maxLen]; omega) fun r' w6 hO6 hs6 => ?_
    refine IN2_next hm.le hi' ⟨hs6.ext0 hE (fun k hk => (hO.blk k hk).1), ?_⟩
    unfold img at hO6 ⊢
    rw [map_take_succ hi', hu]
    simpa [hul] using hO6
  · have : i = m.length := by omega
    subst this
    exact ⟨hE, by simpa using hO⟩

theorem throughI_ok {w : World} {s t : Sl} {f m : List Int} (hf : R w s f) (hm : R w t m) (hin : ∀ x ∈ m, ∃ u : Nat, x = u ∧ u < f.length) (hml : m.length ≤ 1048576) :
    Calls Tryz.prog F.s_coThrough #[s.v, t.v] w (Ret [.at .sl] fun (r : Sl) w' => Ext w w' ∧ OwnL w' w.heap.size T.t_int r (img f m)) := coThrough_ok hf hm hin hml

/-! ### Two problems -/

def TwoOk (p q : Prob) : Prop := PGood p ∧ PGood q ∧ p.degree = q.degree

theorem confRow {L : List (List Int)} {size labels : Int} (h : ConfOk L size labels) {c : List Int} (hc : c ∈ L) : (c.length : Int) = size ∧ AllIn c 0 (labels - 1) := by
  obtain ⟨i, hi, rfl⟩ := List.mem_iff_getElem.1 hc
  exact ⟨(h.row i hi).1, (h.row i hi).2.2⟩

theorem badEdge_ok {w : World} {c' d' s : Sl} {p q : Prob} {pq pf : Addr} {t1 t2 : TypeId} {f : List Int} {fs : Sl} (h' : RProb w c' d' q) (hb2 : Box w pq t1 [.int .i64 q.labels, .int .i64 q.degree, c'.v, d'.v]) (hbf : Box w pf t2 [fs.v]) (hf : R w fs f) (hp : PGood p) (hq : PGood q) (hsq : SmallP q) (hfl : (f.length : Int) = p.labels) (hl : R w s p.edges) :
    Calls Tryz.prog F.slices_ContainsFunc_sl_sl_int_sl_int #[s.v, .func (.func F.i_isLabelMap_1) #[] #[.pointer (some pq), .pointer (some pf)]] w (Ret [.at .bool] fun (y : Bool) w' => (y = true ↔ ∃ r ∈ p.edges, sortI (img f r) ∉ q.edges) ∧ Ext w w') := by
  refine C_slices_ContainsFunc_sl_sl_int_sl_int ?_
  unfold V_slices_ContainsFunc_sl_sl_int_sl_int
  refine C_slices_IndexFunc_sl_sl_int_sl_int ?_
  unfold V_slices_IndexFunc_sl_sl_int_sl_int
  rw [hl.len]
  refine ⟨IN p.edges.length fun i w' => Ext w w' ∧ ∀ r ∈ p.edges.take i, sortI (img f r) ∈ q.edges, MN p.edges.length, IN_zero ⟨Ext.refl _, by simp⟩, ?_⟩
  rintro _ w4 ⟨i, rfl, hi, hE4, hI⟩
  intros
  have hf64 := flat_ok hf
  refine cond_dec (fun hlt => ?_) (fun hge => ?_)
  · have hi' : i < p.edges.length := by omega
    obtain ⟨hr2, hrA⟩ := confRow hp.edges (List.getElem_mem hi')
    have hr2' : p.edges[i].length = 2 := by omega
    obtain ⟨u0, hu0, hul0⟩ := in_map hfl hrA (p.edges[i][0]'(by omega)) (List.getElem_mem _)
    obtain ⟨u1, hu1, hul1⟩ := in_map hfl hrA (p.edges[i][1]'(by omega)) (List.getElem_mem _)
    have himg : img f p.edges[i] = [f[u0], f[u1]] := by
      rw [img2 hr2', hu0, hu1]; simp [hul0, hul1]
    refine (hl.ext hE4).ixL hi' fun q0 s1 hR1 hc => LD_sl hc ?_
    refine CALLV_mk (by kernel_rfl) ?_
    refine C_i_isLabelMap_1 ?_
    unfold V_i_isLabelMap_1
    refine LD_iiss (hb2.ext hE4) (LD_bs (hbf.ext hE4) ?_)
    refine hR1.any.ixI (i := 0) (by omega) fun q1 _ hc => LD_int hc ?_
    rw [hu0]
    refine (hf.ext hE4).ixI hul0 fun q2 _ hc => LD_int hc (LD_bs (hbf.ext hE4) ?_)
    refine hR1.any.ixI (i := 1) (by omega) fun q3 _ hc => LD_int hc ?_
    rw [hu1]
    refine (hf.ext hE4).ixI hul1 fun q4 _ hc => LD_int hc ?_
    refine QCALL_bool (edgeB q f[u0] f[u1]) (edgeQ (h'.ext hE4) hsq hq (hf64 _ (List.getElem_mem hul0)) (hf64 _ (List.getElem_mem hul1))) ?_
    intro w5 hE5
    have hed : edgeB q f[u0] f[u1] = true ↔ sortI (img f p.edges[i]) ∈ q.edges := by rw [edgeB_iff, himg]; rfl
    refine cond_not (fun hfa => ⟨?_, hE4.trans hE5⟩) (fun htr => IN_next hl.le hi' ⟨hE4.trans hE5, fun r hr => ?_⟩)
    · have e : decide ((i : Int) ≥ 0) = true := by simp
      rw [e]
      simp only [true_iff]
      exact ⟨p.edges[i], List.getElem_mem hi', fun hA => by rw [hed.2 hA] at hfa; cases hfa⟩
    · rw [List.take_succ_eq_append_getElem hi'] at hr
      rcases List.mem_append.1 hr with h1 | h1
      · exact hI r h1
      · rw [List.mem_singleton.1 h1]; exact hed.1 htr
  · have : i = p.edges.length := by omega
    subst this
    rw [List.take_length] at hI
    refine ⟨?_, hE4⟩
    have e : decide ((-1 : Int) ≥ 0) = false := by decide
    rw [e]
    simp only [Bool.false_eq_true, false_iff]
    rintro ⟨r, hr, hn⟩
    exact hn (hI r hr)

theorem isLabelMap_ok {w : World} {c d c' d' fs : Sl} {p q : Prob} {f : List Int} (h : RProb w c d p) (h' : RProb w c' d' q) (hp : PGood p) (hq : PGood q) (hsp : SmallP p) (hsq : SmallP q) (hf : R w fs f) :
    Calls Tryz.prog F.i_isLabelMap #[.agg #[.int .i64 p.labels, .int .i64 p.degree, c.v, d.v], .agg #[.int .i64 q.labels, .int .i64 q.degree, c'.v, d'.v], fs.v] w (Ret [.at .bool] fun (x : Bool) w' => (x = true ↔ MapOk p q f) ∧ Ext w w') := by
  refine C_i_isLabelMap ?_
  unfold V_i_isLabelMap
  refine NEW_intro fun pp w1 hp1 hs1 hE1 hb1 => NEW_intro fun pq w2 hp2 hs2 hE2 hb2 => NEW_intro fun pf w3 hp3 hs3 hE3 hbf => LD_bs hbf ?_
  have hE := (hE1.trans hE2).trans hE3
  replace h := h.ext hE
  replace h' := h'.ext hE
  replace hf := hf.ext hE
  replace hb1 := hb1.ext hE2
  replace hb1 := hb1.ext hE3
  replace hb2 := hb2.ext hE3
  have hno : ∀ {w' : World}, Ext w w' → ¬ MapOk p q f → (false = true ↔ MapOk p q f) ∧ Ext w w' := fun h1 h2 => ⟨by simp [h2], h1⟩
  refine LD_bi0 hb1 ?_
  rw [hf.len]
  refine cond_ne (fun hne => hno hE fun hM => hne hM.len) (fun heq => LD_iiss hb2 (LD_bs hbf ?_))
  have hfl : (f.length : Int) = p.labels := heq
  refine call (hasLabels_ok hq.lab hf) ?_
  rintro x w4 ⟨hx, hE4⟩
  replace hE := hE.ext hE4
  replace h := h.ext hE4
  replace h' := h'.ext hE4
  replace hf := hf.ext hE4
  replace hb1 := hb1.ext hE4
  replace hb2 := hb2.ext hE4
  replace hbf := hbf.ext hE4
  refine cond_not (fun hfa => hno hE fun hM => by rw [hx.2 hM.labs] at hfa; cases hfa) (fun ht => ?_)
  unfold V_i_isLabelMap_k1
  refine LD_bs2 hb1 ?_
  rw [h.nodes.len]
  have hd := hp.deg
  refine ⟨IN p.nodes.length fun i w' => Ext w4 w' ∧ ∀ r ∈ p.nodes.take i, sortI (img f r) ∈ q.nodes, MN p.nodes.length, IN_zero ⟨Ext.refl _, by simp⟩, ?_⟩
  rintro _ w6 ⟨i, rfl, hi, hE6, hI⟩
  intros
  refine cond_dec (fun hlt => ?_) (fun hge => ?_)
  · have hi' : i < p.nodes.length := by omega
    obtain ⟨hrl, hrA⟩ := confRow hp.nodes (List.getElem_mem hi')
    refine (h.nodes.ext hE6).ixL hi' fun q0 s1 hR1 hc => LD_sl hc ?_
    intro w7 hE7 _
    have hE67 := hE6.trans hE7
    refine LD_iiss (hb2.ext hE67) (LD_bs (hbf.ext hE67) ⟨Ext.refl _, ?_⟩)
    refine call (images_ok (hR1.any.ext hE7) (hf.ext hE67) (in_map hfl hrA) (by omega)) ?_
    rintro r8 w8 ⟨hE8, hO8⟩
    refine ⟨hE8, ?_⟩
    refine call (node_ok ((h'.ext hE67).ext hE8) hsq hq (hO8.rep (img_I64 (flat_ok hf))).any (by rw [img_len]; omega)) ?_
    rintro y w9 ⟨hy, hE9⟩
    have hE79 := hE8.trans hE9
    refine ⟨hE79, hE79, ?_⟩
    refine cond_not (fun hfa => hno (hE.trans (hE67.trans hE79)) fun hM => by rw [hy.2 (hM.nodes _ (List.getElem_mem hi'))] at hfa; cases hfa) (fun ht2 => IN_next (by have := hsp.1.1; omega) hi' ⟨hE67.trans hE79, fun r hr => ?_⟩)
    rw [List.take_succ_eq_append_getElem hi'] at hr
    rcases List.mem_append.1 hr with h1 | h1
    · exact hI r h1
    · rw [List.mem_singleton.1 h1]; exact hy.1 ht2
  · have : i = p.nodes.length := by omega
    subst this
    rw [List.take_length] at hI
    refine LD_bs3 (hb1.ext hE6) ?_
    refine call (badEdge_ok (h'.ext hE6) (hb2.ext hE6) (hbf.ext hE6) (hf.ext hE6) hp hq hsq hfl (h.edges.ext hE6)) ?_
    rintro y w10 ⟨hy, hE10⟩
    refine ⟨?_, hE.trans (hE6.trans hE10)⟩
    constructor
    · intro hh
      refine ⟨hfl, hx.1 ht, hI, fun r hr => Classical.byContradiction fun hn => ?_⟩
      have hyt := hy.2 ⟨r, hr, hn⟩
      rw [hyt] at hh; cases hh
    · intro hM
      cases hyb : y with
      | false => rfl
      | true =>
        obtain ⟨r, hr, hn⟩ := hy.1 hyb
        exact absurd (hM.edges r hr) hn

/-! ### Whether it is a label map: the reference -/

theorem reInto_ok {w : World} {s t fs : Sl} {L M : List (List Int)} {f : List Int} (hl : R w s L) (hm : R w t M) (hf : R w fs f) (hin : ∀ r ∈ L, r.length ≤ 1048576 ∧ ∀ x ∈ r, ∃ u : Nat, x = u ∧ u < f.length) :
    Calls Tryz.prog F.s_reInto #[s.v, t.v, fs.v] w (Ret [.at .bool] fun (x : Bool) w' => (x = true ↔ ∀ r ∈ L, sortI (img f r) ∈ M) ∧ Ext w w') := by
  refine C_s_reInto ?_
  unfold V_s_reInto
  rw [hl.len]
  refine ⟨IN L.length fun i w' => Ext w w' ∧ ∀ r ∈ L.take i, sortI (img f r) ∈ M, MN L.length, IN_zero ⟨Ext.refl _, by simp⟩, ?_⟩
  rintro _ w1 ⟨i, rfl, hi, hE, hI⟩
  intros
  refine cond_dec (fun hlt => ?_) (fun hge => ?_)
  · have hi' : i < L.length := by omega
    obtain ⟨hrl, hri⟩ := hin _ (List.getElem_mem hi')
    refine (hl.ext hE).ixL hi' fun q0 s1 hR1 hc => LD_sl hc ?_
    refine call (throughI_ok (hf.ext hE) hR1.any hri hrl) ?_
    rintro r2 w2 ⟨hE2, hO2⟩
    have hok := img_I64 (f := f) (l := L[i]) (flat_ok hf)
    refine call (prSorted_ok (hO2.rep hok).any (by rw [img_len]; exact hrl)) ?_
    rintro r3 w3 ⟨hE3, hO3⟩
    have hE13 := hE2.trans hE3
    refine call (prHas_ok (hm.ext (hE.trans hE13)) (hO3.rep (sortI_I64 hok)).any) ?_
    rintro _ w4 ⟨rfl, hE4⟩
    have hEt := hE.trans (hE13.trans hE4)
    refine cond_not (fun hfa => ⟨?_, hEt⟩) (fun ht => IN_next hl.le hi' ⟨hEt, fun r hr => ?_⟩)
    · simp only [Bool.false_eq_true, false_iff]
      intro hA
      have := hA _ (List.getElem_mem hi')
      simp [this] at hfa
    · rw [List.take_succ_eq_append_getElem hi'] at hr
      rcases List.mem_append.1 hr with h1 | h1
      · exact hI r h1
      · rw [List.mem_singleton.1 h1]; simpa using ht
  · have : i = L.length := by omega
    subst this
    rw [List.take_length] at hI
    exact ⟨by simp only [true_iff]; exact hI, hE⟩

theorem reMap_ok {w : World} {c d c' d' fs : Sl} {p q : Prob} {f : List Int} (h : RProb w c d p) (h' : RProb w c' d' q) (hp : PGood p) (hq : PGood q) (hf : R w fs f) :
    Calls Tryz.prog F.s_reMap #[.agg #[.int .i64 p.labels, .int .i64 p.degree, c.v, d.v], .agg #[.int .i64 q.labels, .int .i64 q.degree, c'.v, d'.v], fs.v] w (Ret [.at .bool] fun (x : Bool) w' => (x = true ↔ MapOk p q f) ∧ Ext w w') := by
  refine C_s_reMap ?_
  unfold V_s_reMap
  refine NEW_intro fun pp w1 hp1 hs1 hE1 hb1 => NEW_intro fun pq w2 hp2 hs2 hE2 hb2 => LD_bi0 (hb1.ext hE2) ?_
  have hE := hE1.trans hE2
  replace h := h.ext hE
  replace h' := h'.ext hE
  replace hf := hf.ext hE
  replace hb1 := hb1.ext hE2
  have hno : ∀ {w' : World}, Ext w w' → ¬ MapOk p q f → (false = true ↔ MapOk p q f) ∧ Ext w w' := fun h1 h2 => ⟨by simp [h2], h1⟩
  rw [hf.len]
  refine cond_eq (fun heq => LD_bi0 hb2 ?_) (fun hne => hno hE fun hM => hne hM.len)
  have hfl : (f.length : Int) = p.labels := heq
  have hlq := hq.lab
  have hd := hp.deg
  rw [wrap_of (n := q.labels - 1) (by omega) (by omega)]
  refine call (l1All_ok hf 0 (q.labels - 1)) ?_
  rintro x _ ⟨hx, rfl⟩
  refine cond_b (fun ht => LD_bs2 hb1 (LD_bs2 hb2 ?_)) (fun hfa => hno hE fun hM => by rw [hx.2 hM.labs] at hfa; cases hfa)
  refine call (reInto_ok h.nodes h'.nodes hf fun r hr => ⟨by have := (confRow hp.nodes hr).1; omega, in_map hfl (confRow hp.nodes hr).2⟩) ?_
  rintro y w4 ⟨hy, hE4⟩
  replace hE := hE.ext hE4
  replace h := h.ext hE4
  replace h' := h'.ext hE4
  replace hf := hf.ext hE4
  replace hb1 := hb1.ext hE4
  replace hb2 := hb2.ext hE4
  refine cond_b (fun ht2 => LD_bs3 hb1 (LD_bs3 hb2 ?_)) (fun hfa => hno hE fun hM => by rw [hy.2 hM.nodes] at hfa; cases hfa)
  refine call (reInto_ok h.edges h'.edges hf fun r hr => ⟨by have := (confRow hp.edges hr).1; omega, in_map hfl (confRow hp.edges hr).2⟩) ?_
  rintro z w5 ⟨hz, hE5⟩
  exact ⟨⟨fun ht3 => ⟨hfl, hx.1 ht, hy.1 ht2, hz.1 ht3⟩, fun hM => hz.2 hM.edges⟩, hE.trans hE5⟩

/-! ### The statement's answers -/

theorem MlAsked.of {p q : Prob} {f : List Int} {n : Net} {L : List (List Int)} (h1 : TwoOk p q) (h2 : MapOk p q f) (h3 : Good n) (h4 : LabOk p n.ends L) : MlAsked p q f n L := ⟨h1.1, h1.2.1, h1.2.2, h2, h3, h4⟩

end Go.Proofs.YtaeledhbkdakcaaGreatDoor
end

section
/- Lists of labels in order, lists that are good; products of problems, both sides. -/
namespace Go.Proofs.YtaeledhbkdakcaaGreatDoor
open Go.GX Go.RowKit
set_option maxRecDepth 100000

/-! ### Lists of labels in order -/

theorem labsFrom_take {f n t : Nat} (h : f + t < n) : (labsFrom f n).take (t + 1) = (labsFrom f n).take t ++ [((f + t : Nat) : Int)] := by
  have hl : (labsFrom f n).length = n - f := by simp [labsFrom]
  rw [List.take_succ_eq_append_getElem (by omega)]
  simp [labsFrom]

theorem labsFrom_len (f n : Nat) : (labsFrom f n).length = n - f := by simp [labsFrom]

/-- One list and its continuations, added to a list of lists. -/
theorem add_one {w0 w : World} {next row : Sl} {A : List (List Int)} {ss : List Sl} {c : List Int} {v : Int} (hE : Ext w0 w) (hr : R w0 row c) (hc : c.length ≤ 1000) (hA : RowsD w w0.heap.size T.t_int T.t_sl_int next A ss) (hAl : A.length < 1048576) (hv : I64 v) {K : Sl → World → Prop}
    (hk : ∀ next' w' ss', Ext w0 w' → RowsD w' w0.heap.size T.t_int T.t_sl_int next' (A ++ [c ++ [v]]) ss' → K next' w') {x38 : Sl} {w6 : World} (hE6 : Ext w w6) (hO6 : OwnL w6 w.heap.size T.t_int x38 c) :
    RUN Tryz.prog (.at .sl) (Instr.buildSlice T.t_sl_int 1 #[(0, .int .i64 v)]) w6 fun (x40 : Sl) w7 =>
    RUN Tryz.prog (.at .sl) (bsem .append #[T.t_sl_int, T.t_sl_int] T.t_sl_int #[x38.v, x40.v]) w7 fun (x41 : Sl) w8 =>
    RUN Tryz.prog (.at .sl) (Instr.buildSlice T.t_sl_sl_int 1 #[(0, x41.v)]) w8 fun (x42 : Sl) w9 =>
    RUN Tryz.prog (.at .sl) (bsem .append #[T.t_sl_sl_int, T.t_sl_sl_int] T.t_sl_sl_int #[next.v, x42.v]) w9 K := by
  have hz0 := hE.size_le
  have hz6 := hE6.size_le
  refine RUN_lit1 (α := Int) slt_int v rfl (by decide) fun x40 w7 hE7 hO7 => ?_
  have hz7 := hE7.size_le
  refine RUN_append (α := Int) slt_int (hO6.ext hE7) (by omega) (hO7.rep (by intro x hx; rw [List.mem_singleton.1 hx]; exact hv)).any (by simp; omega) (by simp [maxLen]; omega) fun x41 w8 hO8 hs8 => ?_
  have hE68 : Ext w w8 := hs8.ext0 (hE6.trans hE7) fun k hk => (hO6.blk k hk).1
  refine RUN_lit1 (α := Sl) slt_rows x41 rfl (by decide) fun x42 w9 hE9 hO9 => ?_
  have hA9 := (hA.ext hE68).ext hE9
  refine RUN_append_rowD slt_rows (by decide) hA9 (by have := hE68.size_le; have := hE9.size_le; omega) ((hO8.ext hE9).low hz0) (hA.fresh (hO8.ext hE9) (Nat.le_refl _)) hO9 (by omega) (by unfold maxLen; omega) fun s' w10 hA10 hs10 => ?_
  exact hk _ _ _ (hs10.ext0 (hE.trans (hE68.trans hE9)) fun k hk => (hA9.own.blk k hk).1) hA10

theorem i_multisets_k7_ok {I6 : Sl → Int → World → Prop} {m6 : Sl → Int → World → Nat} {x17 : Int} {w0 w3 w4 : World} {n f : Nat} {next row : Sl} {c : List Int} {A : List (List Int)} {ss : List Sl} (hE : Ext w0 w4) (hr : R w0 row c) (hc : c.length ≤ 1000) (hA : RowsD w4 w0.heap.size T.t_int T.t_sl_int next A ss) (hn : n ≤ 1000) (hAl : A.length + n ≤ 1048576)
    (hk : ∀ next' w' ss', Ext w0 w' → RowsD w' w0.heap.size T.t_int T.t_sl_int next' (A ++ (labsFrom f n).map fun a => c ++ [a]) ss' → I6 next' (IntKind.i64.wrap (x17 + 1)) w' ∧ m6 next' (IntKind.i64.wrap (x17 + 1)) w' < m6 next x17 w3) :
    V_i_multisets_k7 I6 m6 x17 w3 (n : Int) next row (f : Int) w4 := by
  unfold V_i_multisets_k7
  refine ⟨fun (nx : Sl) (x : Int) w' => ∃ t : Nat, x = ((f + t : Nat) : Int) ∧ Ext w0 w' ∧ ∃ ss', RowsD w' w0.heap.size T.t_int T.t_sl_int nx (A ++ ((labsFrom f n).take t).map fun a => c ++ [a]) ss', fun _ x _ => n - x.toNat, ⟨0, by omega, hE, ss, by simpa using hA⟩, ?_⟩
  rintro nx _ w5 ⟨t, rfl, hE5, ss', hS⟩
  intros
  refine cond_dec (fun hlt => ?_) (fun hge => ?_)
  · have hlt' : f + t < n := by omega
    refine call (clone_ok (hr.ext hE5) (by omega)) ?_
    rintro x38 w6 ⟨hE6, hO6⟩
    refine add_one hE5 hr hc hS (by simp [labsFrom_len]; omega) (by unfold I64; omega) (fun next' w' ss2 hE' hS' => ?_) hE6 hO6
    rw [wrap_of (by omega) (by omega)]
    refine ⟨⟨t + 1, by omega, hE', ss2, ?_⟩, by simp only []; omega⟩
    rw [labsFrom_take hlt', List.map_append, ← List.append_assoc]
    exact hS'
  · have hl : (labsFrom f n).take t = labsFrom f n := List.take_of_length_le (by rw [labsFrom_len]; omega)
    rw [hl] at hS
    exact hk _ _ _ hE5 hS


theorem s_reChoices_k7_ok {I7 : Sl → Int → World → Prop} {m7 : Sl → Int → World → Nat} {x20 : Int} {w0 w3 w4 : World} {n f : Nat} {next row : Sl} {c : List Int} {A : List (List Int)} {ss : List Sl} (hE : Ext w0 w4) (hr : R w0 row c) (hc : c.length ≤ 1000) (hA : RowsD w4 w0.heap.size T.t_int T.t_sl_int next A ss) (hn : n ≤ 1000) (hAl : A.length + n ≤ 1048576)
    (hk : ∀ next' w' ss', Ext w0 w' → RowsD w' w0.heap.size T.t_int T.t_sl_int next' (A ++ (labsFrom f n).map fun a => c ++ [a]) ss' → I7 next' (IntKind.i64.wrap (x20 + 1)) w' ∧ m7 next' (IntKind.i64.wrap (x20 + 1)) w' < m7 next x20 w3) :
    V_s_reChoices_k7 I7 m7 x20 w3 (n : Int) next row (f : Int) w4 := by
  unfold V_s_reChoices_k7
  refine ⟨fun (nx : Sl) (x : Int) w' => ∃ t : Nat, x = ((f + t : Nat) : Int) ∧ Ext w0 w' ∧ ∃ ss', RowsD w' w0.heap.size T.t_int T.t_sl_int nx (A ++ ((labsFrom f n).take t).map fun a => c ++ [a]) ss', fun _ x _ => n - x.toNat, ⟨0, by omega, hE, ss, by simpa using hA⟩, ?_⟩
  rintro nx _ w5 ⟨t, rfl, hE5, ss', hS⟩
  intros
  refine cond_dec (fun hlt => ?_) (fun hge => ?_)
  · have hlt' : f + t < n := by omega
    refine call (l1Own_ok (hr.ext hE5) (by omega)) ?_
    rintro x38 w6 ⟨hE6, hO6⟩
    refine add_one hE5 hr hc hS (by simp [labsFrom_len]; omega) (by unfold I64; omega) (fun next' w' ss2 hE' hS' => ?_) hE6 hO6
    rw [wrap_of (by omega) (by omega)]
    refine ⟨⟨t + 1, by omega, hE', ss2, ?_⟩, by simp only []; omega⟩
    rw [labsFrom_take hlt', List.map_append, ← List.append_assoc]
    exact hS'
  · have hl : (labsFrom f n).take t = labsFrom f n := List.take_of_length_le (by rw [labsFrom_len]; omega)
    rw [hl] at hS
    exact hk _ _ _ hE5 hS


theorem msets_pre {n k : Nat} {i : Nat} : (((msets n k).take i).flatMap fun c => (labsFrom (lastOf c) n).map fun a => c ++ [a]).length ≤ i * n := by
  have hs : ∀ l : List (List Int), (l.flatMap fun c => (labsFrom (lastOf c) n).map fun a => c ++ [a]).length ≤ l.length * n := by
    intro l
    induction l with
    | nil => simp
    | cons c l ih =>
      rw [List.flatMap_cons, List.length_append, List.length_map, labsFrom_len, List.length_cons, Nat.succ_mul]
      omega
  refine Nat.le_trans (hs _) (Nat.mul_le_mul_right n ?_)
  rw [List.length_take]
  omega

theorem last_of_len {c : List Int} (hc : 0 < c.length) (h0 : ∀ x ∈ c, 0 ≤ x) : c[c.length - 1]'(by omega) = (lastOf c : Int) := by
  have e : c.getLastD 0 = c[c.length - 1]'(by omega) := by
    rw [List.getLastD_eq_getLast?, List.getLast?_eq_getElem?, List.getElem?_eq_getElem (by omega)]; rfl
  have := h0 _ (List.getElem_mem (show c.length - 1 < c.length by omega))
  unfold lastOf
  rw [e]
  omega

theorem multisets_ok {n k : Nat} (w : World) (hn : n ≤ 1000) (hk : k ≤ 1000) (hnk : ∀ j, j ≤ k → n ^ j ≤ 1048576 - 1000) :
    Calls Tryz.prog F.i_multisets #[.int .i64 n, .int .i64 k] w (Ret [.at .sl] fun (r : Sl) w' => Ext w w' ∧ ∃ ss, RowsD w' w.heap.size T.t_int T.t_sl_int r (msets n k) ss) := by
  refine C_i_multisets ?_
  unfold V_i_multisets
  refine RUN_lit1 (α := Sl) slt_rows ⟨none, 0, 0⟩ rfl (by decide) fun s0 w1 hE1 hO1 => ?_
  have hS1 : RowsD w1 w.heap.size T.t_int T.t_sl_int s0 (msets n 0) [⟨none, 0, 0⟩] := by
    refine ⟨hO1, rfl, fun i r l hr hl => ?_, fun i j r q hr hq hij b hb => ?_⟩
    · match i, hr, hl with
      | 0, hr, hl => simp [msets] at hr hl; subst hr; subst hl; exact OwnL.nil _ _ _
      | i + 1, hr, hl => simp at hr
    · match i, hr with
      | 0, hr => simp at hr; subst hr; cases hb
      | i + 1, hr => simp at hr
  refine ⟨fun (out : Sl) (x : Int) w' => ∃ j : Nat, x = j ∧ j ≤ k ∧ Ext w w' ∧ ∃ ss, RowsD w' w.heap.size T.t_int T.t_sl_int out (msets n j) ss, fun _ x _ => k - x.toNat, ⟨0, rfl, Nat.zero_le _, hE1, _, hS1⟩, ?_⟩
  rintro out _ w2 ⟨j, rfl, hj, hE2, ss, hS⟩
  intros
  have h64 : ∀ r ∈ msets n j, ∀ x ∈ r, I64 x := fun r hr x hx => by have := (mem_msets.1 hr).labs x hx; unfold I64; omega
  have hml := Nat.le_trans (msets_len n j) (hnk j hj)
  refine cond_dec (fun hlt => ?_) (fun hge => ?_)
  · have hjk : j < k := by omega
    have hpow := hnk (j + 1) hjk
    have hR := hS.rep h64
    rw [hR.len]
    have hz2 := hE2.size_le
    let I : Nat → Sl → World → Prop := fun i nx w' => Ext w2 w' ∧ ∃ ss', RowsD w' w2.heap.size T.t_int T.t_sl_int nx (((msets n j).take i).flatMap fun c => (labsFrom (lastOf c) n).map fun a => c ++ [a]) ss'
    refine ⟨IN2 (msets n j).length I, MN2 (msets n j).length, IN2_zero ⟨Ext.refl _, [], by simpa using RowsD.nil _ _ _ _⟩, ?_⟩
    rintro nx _ w3 ⟨i, rfl, hi, hE3, ss', hS3⟩
    intros
    refine cond_dec (fun hlt2 => ?_) (fun hge2 => ?_)
    · have hi' : i < (msets n j).length := by omega
      have hM := mem_msets.1 (List.getElem_mem hi')
      have hpre := msets_pre (n := n) (k := j) (i := i)
      have hmul : (i + 1) * n ≤ n ^ (j + 1) := by rw [Nat.pow_succ]; exact Nat.mul_le_mul_right n (by have := msets_len n j; omega)
      rw [Nat.succ_mul] at hmul
      refine hR.ixL0 hE3 hi' fun p row hrow0 hc => LD_sl hc ?_
      have hR1 := hrow0.ext hE3
      have hml' := hM.len
      have hgo : ∀ f : Nat, f = lastOf (msets n j)[i] → V_i_multisets_k7 (IN2 (msets n j).length I) (MN2 (msets n j).length) (i : Int) w3 (n : Int) nx row (f : Int) w3 := fun f hf => by
        subst hf
        refine i_multisets_k7_ok hE3 hrow0 (by omega) hS3 hn (by omega) fun next' w' ss2 hE' hS' => ?_
        refine IN2_next hR.le hi' ⟨hE', ss2, ?_⟩
        rw [List.take_succ_eq_append_getElem hi', List.flatMap_append]
        simpa using hS'
      refine cond_dec (fun h1 => ?_) (fun h1 => hgo 0 (by rw [List.length_eq_zero_iff.1 (show (msets n j)[i].length = 0 by rw [hR1.len] at h1; omega)]; rfl))
      rw [hR1.len] at h1 ⊢
      rw [wrap_of (by omega) (by omega)]
      have hlc := last_of_len (c := (msets n j)[i]) (by omega) fun x hx => (hM.labs x hx).1
      have e1 : ((((msets n j)[i].length : Nat) : Int)) - 1 = (((msets n j)[i].length - 1 : Nat) : Int) := by omega
      rw [e1]
      refine hR1.ixI (by omega) fun q _ hc => LD_int hc ?_
      rw [hlc]
      exact hgo _ rfl
    · have : i = (msets n j).length := by omega
      subst this
      rw [List.take_length] at hS3
      rw [wrap_of (by omega) (by omega)]
      exact ⟨⟨j + 1, by omega, hjk, hE2.trans hE3, ss', hS3.low hz2⟩, by simp only []; omega⟩
  · have : j = k := by omega
    subst this
    exact ⟨hE2, ss, hS⟩


theorem reChoices_ok {n k : Nat} (w : World) (hn : n ≤ 1000) (hk : k ≤ 1000) (hnk : ∀ j, j ≤ k → n ^ j ≤ 1048576 - 1000) :
    Calls Tryz.prog F.s_reChoices #[.int .i64 n, .int .i64 k] w (Ret [.at .sl] fun (r : Sl) w' => Ext w w' ∧ ∃ ss, RowsD w' w.heap.size T.t_int T.t_sl_int r (msets n k) ss) := by
  refine C_s_reChoices ?_
  unfold V_s_reChoices
  refine RUN_lit1 (α := Sl) slt_rows ⟨none, 0, 0⟩ rfl (by decide) fun s0 w1 hE1 hO1 => ?_
  have hS1 : RowsD w1 w.heap.size T.t_int T.t_sl_int s0 (msets n 0) [⟨none, 0, 0⟩] := by
    refine ⟨hO1, rfl, fun i r l hr hl => ?_, fun i j r q hr hq hij b hb => ?_⟩
    · match i, hr, hl with
      | 0, hr, hl => simp [msets] at hr hl; subst hr; subst hl; exact OwnL.nil _ _ _
      | i + 1, hr, hl => simp at hr
    · match i, hr with
      | 0, hr => simp at hr; subst hr; cases hb
      | i + 1, hr => simp at hr
  refine ⟨fun (out : Sl) (x : Int) w' => ∃ j : Nat, x = j ∧ j ≤ k ∧ Ext w w' ∧ ∃ ss, RowsD w' w.heap.size T.t_int T.t_sl_int out (msets n j) ss, fun _ x _ => k - x.toNat, ⟨0, rfl, Nat.zero_le _, hE1, _, hS1⟩, ?_⟩
  rintro out _ w2 ⟨j, rfl, hj, hE2, ss, hS⟩
  intros
  have h64 : ∀ r ∈ msets n j, ∀ x ∈ r, I64 x := fun r hr x hx => by have := (mem_msets.1 hr).labs x hx; unfold I64; omega
  have hml := Nat.le_trans (msets_len n j) (hnk j hj)
  refine cond_dec (fun hlt => ?_) (fun hge => ?_)
  · have hjk : j < k := by omega
    have hpow := hnk (j + 1) hjk
    have hR := hS.rep h64
    rw [hR.len]
    have hz2 := hE2.size_le
    let I : Nat → Sl → World → Prop := fun i nx w' => Ext w2 w' ∧ ∃ ss', RowsD w' w2.heap.size T.t_int T.t_sl_int nx (((msets n j).take i).flatMap fun c => (labsFrom (lastOf c) n).map fun a => c ++ [a]) ss'
    refine ⟨IN2 (msets n j).length I, MN2 (msets n j).length, IN2_zero ⟨Ext.refl _, [], by simpa using RowsD.nil _ _ _ _⟩, ?_⟩
    rintro nx _ w3 ⟨i, rfl, hi, hE3, ss', hS3⟩
    intros
    refine cond_dec (fun hlt2 => ?_) (fun hge2 => ?_)
    · have hi' : i < (msets n j).length := by omega
      have hM := mem_msets.1 (List.getElem_mem hi')
      have hpre := msets_pre (n := n) (k := j) (i := i)
      have hmul : (i + 1) * n ≤ n ^ (j + 1) := by rw [Nat.pow_succ]; exact Nat.mul_le_mul_right n (by have := msets_len n j; omega)
      rw [Nat.succ_mul] at hmul
      refine hR.ixL0 hE3 hi' fun p row hrow0 hc => LD_sl hc ?_
      have hR1 := hrow0.ext hE3
      have hml' := hM.len
      have hgo : ∀ f : Nat, f = lastOf (msets n j)[i] → V_s_reChoices_k7 (IN2 (msets n j).length I) (MN2 (msets n j).length) (i : Int) w3 (n : Int) nx row (f : Int) w3 := fun f hf => by
        subst hf
        refine s_reChoices_k7_ok hE3 hrow0 (by omega) hS3 hn (by omega) fun next' w' ss2 hE' hS' => ?_
        refine IN2_next hR.le hi' ⟨hE', ss2, ?_⟩
        rw [List.take_succ_eq_append_getElem hi', List.flatMap_append]
        simpa using hS'
      refine cond_dec (fun h1 => ?_) (fun h1 => hgo 0 (by rw [List.length_eq_zero_iff.1 (show (msets n j)[i].length = 0 by omega)]; rfl))
      skip
      rw [wrap_of (by omega) (by omega)]
      have hlc := last_of_len (c := (msets n j)[i]) (by omega) fun x hx => (hM.labs x hx).1
      have e1 : (j : Int) - 1 = (((msets n j)[i].length - 1 : Nat) : Int) := by omega
      rw [e1]
      refine hR1.ixI (by omega) fun q _ hc => LD_int hc ?_
      rw [hlc]
      exact hgo _ rfl
    · have : i = (msets n j).length := by omega
      subst this
      rw [List.take_length] at hS3
      rw [wrap_of (by omega) (by omega)]
      exact ⟨⟨j + 1, by omega, hjk, hE2.trans hE3, ss', hS3.low hz2⟩, by simp only []; omega⟩
  · have : j = k := by omega
    subst this
    exact ⟨hE2, ss, hS⟩


/-! ### Lists that are good -/

theorem allowedBy_ok {w : World} {n k : Nat} {f : Fn} {t cc : Array Value} {p : List Int → Bool} (hn : n ≤ 1000) (hk : k ≤ 1000) (hnk : ∀ j, j ≤ k → n ^ j ≤ 1048576 - 1000)
    (hf : ∀ c, InM n k c → ∀ w' (s : Sl), Ext w w' → R w' s c → CALLV Tryz.prog (.func f t cc) #[s.v] w' (Ret [.at .bool] fun (b : Bool) w'' => b = p c ∧ Ext w' w'')) :
    Calls Tryz.prog F.i_allowedBy #[.int .i64 n, .int .i64 k, .func f t cc] w (Ret [.at .sl] fun (r : Sl) w' => Ext w w' ∧ ∃ ss, RowsD w' w.heap.size T.t_int T.t_sl_int r ((msets n k).filter p) ss) := by
  refine C_i_allowedBy ?_
  unfold V_i_allowedBy
  refine NEW_intro fun pg w1 hpg hs1 hE1 hb1 => ?_
  refine call (multisets_ok w1 hn hk hnk) ?_
  rintro r w2 ⟨hE2, ss, hM⟩
  obtain ⟨c, hcL, hR⟩ := RowsC.of hM
  have hmem : ∀ x ∈ ss, InM n k (c x) := fun x hx => mem_msets.1 (by rw [← hcL]; exact List.mem_map.2 ⟨x, hx, rfl⟩)
  have h64 : ∀ x ∈ ss, ∀ y ∈ c x, I64 y := fun x hx y hy => by have := (hmem x hx).labs y hy; unfold I64; omega
  have hlen := hM.len
  have hml := Nat.le_trans (msets_len n k) (hnk k (Nat.le_refl _))
  have hE12 := hE1.trans hE2
  have hof : ∀ b, oB r b → w.heap.size ≤ b := fun b hb => by have := (hR.own.blk b hb).1; have := hE1.size_le; omega
  refine call (deleteFuncS_ok (p := fun x => !p (c x)) hR.own (by omega) fun x hx w' hC => ?_) ?_
  · refine CALLV_mk (by kernel_rfl) (C_i_allowedBy_1 ?_)
    unfold V_i_allowedBy_1
    refine LD_val (((hb1.ext hE2).chg hC ((hb1.ext hE2).notOwn hR.own (by decide))).cell (i := 0) rfl) ?_
    refine callv (hf (c x) (hmem x hx) w' x (hC.ext0 hE12 hof) ((hR.rd h64 hx).chg hC fun b hb _ => hb).any) ?_
    rintro b w'' ⟨rfl, hE''⟩
    exact ⟨rfl, hE''⟩
  · rintro r2 w3 ⟨hC3, hO3, hra⟩
    have hf2 : (ss.filter fun x => !(!p (c x))) = ss.filter (p ∘ c) := by congr 1; funext x; simp
    rw [hf2] at hO3
    have hR3 : RowsC w3 w1.heap.size r2 (ss.filter (p ∘ c)) c := hR.chg hC3 hO3 (fun x hx => (List.mem_filter.1 hx).1) (hR.apart.sublist (List.filter_sublist ..))
    have hD := hR3.to
    rw [← List.filter_map, hcL] at hD
    exact ⟨hC3.ext0 hE12 hof, _, hD.low hE1.size_le⟩

/-! ### What labels of a product stand for -/

theorem Apt.new {w : World} {base : Nat} {s s' t : Sl} {l : List Int} (h : Apt s t) (ht : OwnL w base T.t_int t l) (hn : NewOr w s s') : Apt s' t := fun k hk hk' => by
  rcases hn with h1 | h1
  · exact h k (by rw [← h1]; exact hk) hk'
  · have h2 := h1 k hk
    have h3 := (ht.blk k hk').2
    omega

end Go.Proofs.YtaeledhbkdakcaaGreatDoor
end

section
/- Round elimination, in plain words: no program in sight. -/
namespace Go.Proofs.YtaeledhbkdakcaaGreatDoor
open Go.GX

/-- The labels that are allowed at edges with each label of a set. -/
def near (p : Prob) (m : Nat) : Nat := maskOf p.labels.toNat fun b => (labsOf m).all fun a => edgeB p a b

/-- The sets that are in lists, increasing. -/
def setsOf (L : List (List Int)) : List Int := ((List.range 256).filter fun (m : Nat) => L.any fun x => x.contains (m : Int)).map fun (m : Nat) => (m : Int)

def numsOf (sets x : List Int) : List Int := sortI (x.map fun s => ((sets.idxOf s : Nat) : Int))

/-- The lists of labels that are among lists, in order. -/
def confOf (n k : Nat) (L : List (List Int)) : List (List Int) := (msets n k).filter fun c => L.contains c

def ownOf (full : List (List Int)) (k : Nat) : List (List Int) := confOf (setsOf full).length k (full.map (numsOf (setsOf full)))

def listsAt (sets c : List Int) : List (List Int) := c.map fun x => labsOf (sets.getD x.toNat 0).toNat

def someOf (good : List Int → Bool) (sets : List Int) (size : Nat) : List (List Int) := (msets sets.length size).filter fun c => (prodL (listsAt sets c)).any good

def edgeFull (p : Prob) : List (List Int) := ((List.range (2 ^ p.labels.toNat)).filter fun (m : Nat) => decide (1 ≤ m) && decide (near p m ≠ 0) && decide (near p (near p m) = m)).map fun (m : Nat) => [(m : Int), (near p m : Int)]

def edgeSets (p : Prob) : List Int := setsOf (edgeFull p)
def edgeP (p : Prob) : Prob := ⟨((edgeSets p).length : Nat), p.degree, someOf (nodeB p) (edgeSets p) p.degree.toNat, ownOf (edgeFull p) 2⟩

/-- Whether two labels are allowed at an edge. -/
def nodeB2 (p : Prob) (c : List Int) : Bool := decide (sortI c ∈ p.edges)

/-- The labels that complete each choice from sets, as a set. -/
def complM (p : Prob) (ms : List Int) : Int := ((maskOf p.labels.toNat fun b => (prodL (ms.map fun m => labsOf m.toNat)).all fun c => nodeB p (c ++ [(b : Int)]) : Nat) : Int)

def fullB (p : Prob) (l : List Int) : Bool := (List.range l.length).all fun i => complM p (l.eraseIdx i) == l.getD i 0

def setLists (n d : Nat) : List (List Int) := (msets (2 ^ n - 1) d).map fun c => c.map (· + 1)

def nodeFull (p : Prob) : List (List Int) := (setLists p.labels.toNat p.degree.toNat).filter (fullB p)
def nodeSets (p : Prob) : List Int := setsOf (nodeFull p)
def nodeP (p : Prob) : Prob := ⟨((nodeSets p).length : Nat), p.degree, ownOf (nodeFull p) p.degree.toNat, someOf (nodeB2 p) (nodeSets p) 2⟩

/-! ### Lists that are told by what is in them -/

theorem sortI_congr {l m : List Int} (h : l.Perm m) : sortI l = sortI m :=
  ((sortI_perm l).trans (h.trans (sortI_perm m).symm)).eq_of_pairwise (fun a b _ _ h1 h2 => by omega) (sortI_sorted l) (sortI_sorted m)

theorem cmp_ext {A B : List (List Int)} (ha : A.Pairwise fun a b => cmpL a b < 0) (hb : B.Pairwise fun a b => cmpL a b < 0) (h : ∀ x, x ∈ A ↔ x ∈ B) : A = B := by
  have nd : ∀ {C : List (List Int)}, C.Pairwise (fun a b => cmpL a b < 0) → C.Nodup := fun hC => hC.imp fun h he => by subst he; rw [cmpL_zero.2 rfl] at h; omega
  exact ((List.perm_ext_iff_of_nodup (nd ha) (nd hb)).2 h).eq_of_pairwise (fun a b _ _ h1 h2 => by have := cmpL_trans h1 h2; rw [cmpL_zero.2 rfl] at this; omega) ha hb

def Byte (L : List (List Int)) : Prop := ∀ l ∈ L, ∀ x ∈ l, ∃ m : Nat, x = m ∧ m < 256

theorem mem_setsOf {L : List (List Int)} (h : Byte L) {x : Int} : x ∈ setsOf L ↔ ∃ l ∈ L, x ∈ l := by
  unfold setsOf
  rw [List.mem_map]
  constructor
  · rintro ⟨m, hm, rfl⟩
    rw [List.mem_filter, List.any_eq_true] at hm
    obtain ⟨l, hl, hx⟩ := hm.2
    exact ⟨l, hl, by simpa using hx⟩
  · rintro ⟨l, hl, hx⟩
    obtain ⟨m, rfl, hm⟩ := h l hl x hx
    refine ⟨m, ?_, rfl⟩
    rw [List.mem_filter, List.mem_range, List.any_eq_true]
    exact ⟨hm, l, hl, by simpa using hx⟩

theorem setsOf_rise (L : List (List Int)) : (setsOf L).Pairwise (· < ·) := by
  unfold setsOf
  rw [List.pairwise_map]
  exact (List.pairwise_lt_range.filter _).imp fun h => by omega

theorem setsOf_len (L : List (List Int)) : (setsOf L).length ≤ 256 := by
  unfold setsOf
  rw [List.length_map]
  have := List.length_filter_le (fun (m : Nat) => L.any fun x => x.contains (m : Int)) (List.range 256)
  rw [List.length_range] at this
  exact this

theorem setsOf_byte {L : List (List Int)} {x : Int} (h : x ∈ setsOf L) : ∃ m : Nat, x = m ∧ m < 256 := by
  unfold setsOf at h
  obtain ⟨m, hm, rfl⟩ := List.mem_map.1 h
  rw [List.mem_filter, List.mem_range] at hm
  exact ⟨m, rfl, hm.1⟩

theorem setsOf_eq {L : List (List Int)} {A : List Int} (h : Byte L) (ha : A.Pairwise (· < ·)) (hm : ∀ x, x ∈ A ↔ ∃ l ∈ L, x ∈ l) : A = setsOf L :=
  sorted_ext ha (setsOf_rise L) fun x => (hm x).trans (mem_setsOf h).symm

theorem setsOf_congr {L L' : List (List Int)} (h : ∀ x, x ∈ L ↔ x ∈ L') : setsOf L = setsOf L' := by
  unfold setsOf
  congr 1
  apply List.filter_congr
  intro m _
  rw [Bool.eq_iff_iff, List.any_eq_true, List.any_eq_true]
  constructor
  · rintro ⟨x, hx, hc⟩; exact ⟨x, (h x).1 hx, hc⟩
  · rintro ⟨x, hx, hc⟩; exact ⟨x, (h x).2 hx, hc⟩

theorem confOf_eq {n k : Nat} {L A : List (List Int)} (ha : A.Pairwise fun a b => cmpL a b < 0) (hm : ∀ x, x ∈ A ↔ x ∈ L) (hi : ∀ x ∈ L, InM n k x) : A = confOf n k L := by
  refine cmp_ext ha ((msets_rise n k).filter _) fun x => ?_
  unfold confOf
  rw [List.mem_filter, mem_msets, hm x]
  constructor
  · intro hx; exact ⟨hi x hx, by simpa using hx⟩
  · rintro ⟨_, hx⟩; simpa using hx

theorem confOf_congr {n k : Nat} {L L' : List (List Int)} (h : ∀ x, x ∈ L ↔ x ∈ L') : confOf n k L = confOf n k L' := by
  unfold confOf
  apply List.filter_congr
  intro m _
  rw [Bool.eq_iff_iff]
  simp [h m]

theorem ownOf_congr {L L' : List (List Int)} {k : Nat} (h : ∀ x, x ∈ L ↔ x ∈ L') : ownOf L k = ownOf L' k := by
  unfold ownOf
  rw [setsOf_congr h]
  apply confOf_congr
  intro x
  rw [List.mem_map, List.mem_map]
  constructor
  · rintro ⟨y, hy, rfl⟩; exact ⟨y, (h y).1 hy, rfl⟩
  · rintro ⟨y, hy, rfl⟩; exact ⟨y, (h y).2 hy, rfl⟩

/-! ### Full lists in any order -/

theorem nodeB_perm {p : Prob} {c d : List Int} (h : c.Perm d) : nodeB p c = nodeB p d := by
  unfold nodeB
  rw [sortI_congr h]

theorem complM_perm {p : Prob} {l l' : List Int} (h : l.Perm l') : complM p l = complM p l' := by
  unfold complM
  congr 1
  apply maskOf_congr
  intro b _
  have key : ∀ {m m' : List Int}, m.Perm m' → ((prodL (m.map fun m => labsOf m.toNat)).all fun c => nodeB p (c ++ [(b : Int)])) = true → ((prodL (m'.map fun m => labsOf m.toNat)).all fun c => nodeB p (c ++ [(b : Int)])) = true := by
    intro m m' hp ha
    rw [List.all_eq_true] at ha ⊢
    intro c hc
    obtain ⟨d, hd, hcd⟩ := forall₂_perm (hp.symm.map fun m => labsOf m.toNat) (mem_prodL.1 hc)
    rw [nodeB_perm (hcd.append_right _)]
    exact ha d (mem_prodL.2 hd)
  rw [Bool.eq_iff_iff]
  exact ⟨key h, key h.symm⟩

theorem fullB_iff {p : Prob} {l : List Int} : fullB p l = true ↔ ∀ x ∈ l, complM p (l.erase x) = x := by
  unfold fullB
  rw [List.all_eq_true]
  have he : ∀ i (h : i < l.length), (l.eraseIdx i).Perm (l.erase l[i]) := fun i h => by
    have h1 : (l[i] :: l.eraseIdx i).Perm l := by
      rw [List.eraseIdx_eq_take_drop_succ]
      have e : l = l.take i ++ l[i] :: l.drop (i + 1) := by rw [← List.drop_eq_getElem_cons h, List.take_append_drop]
      have h3 : (l.take i ++ l[i] :: l.drop (i + 1)).Perm (l[i] :: (l.take i ++ l.drop (i + 1))) := List.perm_middle
      rw [← e] at h3
      exact h3.symm
    have h2 : l.Perm (l[i] :: l.erase l[i]) := List.perm_cons_erase (List.getElem_mem h)
    exact (h1.trans h2).cons_inv
  constructor
  · intro h x hx
    obtain ⟨i, hi, rfl⟩ := List.mem_iff_getElem.1 hx
    have h1 := h i (List.mem_range.2 hi)
    rw [beq_iff_eq, complM_perm (he i hi)] at h1
    simpa [hi] using h1
  · intro h i hi
    rw [List.mem_range] at hi
    rw [beq_iff_eq, complM_perm (he i hi), h _ (List.getElem_mem hi)]
    simp [hi]

theorem fullB_perm {p : Prob} {l l' : List Int} (h : l.Perm l') (hf : fullB p l = true) : fullB p l' = true := by
  rw [fullB_iff] at hf ⊢
  intro x hx
  rw [← complM_perm (h.erase x)]
  exact hf x (h.mem_iff.2 hx)

/-- What is asked of a list of sets. -/
structure SetL (n d : Nat) (l : List Int) : Prop where
  len : l.length = d
  sorted : l.Pairwise (· ≤ ·)
  vals : ∀ x ∈ l, 1 ≤ x ∧ x < (2 ^ n : Nat)

theorem mem_setLists {n d : Nat} {l : List Int} : l ∈ setLists n d ↔ SetL n d l := by
  have hp : 0 < 2 ^ n := Nat.two_pow_pos n
  unfold setLists
  rw [List.mem_map]
  constructor
  · rintro ⟨c, hc, rfl⟩
    have h := mem_msets.1 hc
    refine ⟨by rw [List.length_map, h.len], by rw [List.pairwise_map]; exact h.sorted.imp fun h => by omega, fun x hx => ?_⟩
    obtain ⟨a, ha, rfl⟩ := List.mem_map.1 hx
    have := h.labs a ha
    omega
  · intro h
    refine ⟨l.map (· - 1), mem_msets.2 ⟨by rw [List.length_map, h.len], by rw [List.pairwise_map]; exact h.sorted.imp fun h => by omega, fun x hx => ?_⟩, ?_⟩
    · obtain ⟨a, ha, rfl⟩ := List.mem_map.1 hx
      have := h.vals a ha
      omega
    · rw [List.map_map]
      conv => rhs; rw [← List.map_id l]
      apply List.map_congr_left
      intro a _
      simp

theorem mem_nodeFull {p : Prob} {l : List Int} : l ∈ nodeFull p ↔ SetL p.labels.toNat p.degree.toNat l ∧ fullB p l = true := by
  unfold nodeFull
  rw [List.mem_filter, mem_setLists]

theorem complM_lt (p : Prob) (l : List Int) : 0 ≤ complM p l ∧ complM p l < (2 ^ p.labels.toNat : Nat) := by
  unfold complM
  have := maskOf_lt p.labels.toNat fun b => (prodL (l.map fun m => labsOf m.toNat)).all fun c => nodeB p (c ++ [(b : Int)])
  omega

/-- The program's way: complete all but one, sort. -/
theorem nodeFull_of {p : Prob} {d : Nat} (hd : p.degree.toNat = d + 1) {l : List Int} : l ∈ nodeFull p ↔ ∃ c ∈ setLists p.labels.toNat d, complM p c ≠ 0 ∧ fullB p (c ++ [complM p c]) = true ∧ l = sortI (c ++ [complM p c]) := by
  rw [mem_nodeFull, hd]
  constructor
  · rintro ⟨h, hf⟩
    have hne : l ≠ [] := by rintro rfl; have := h.len; simp at this
    obtain ⟨c, z, rfl⟩ : ∃ c z, l = c ++ [z] := ⟨l.dropLast, l.getLast hne, (List.dropLast_concat_getLast hne).symm⟩
    have hcl : c.length = d := by have := h.len; simp at this; exact this
    have hz : complM p c = z := by
      have := fullB_iff.1 hf z (by simp)
      rw [← this]
      apply complM_perm
      have h1 : (c ++ [z]).Perm (z :: (c ++ [z]).erase z) := List.perm_cons_erase (by simp)
      have h2 : (c ++ [z]).Perm (z :: c) := List.perm_append_comm
      exact (h2.symm.trans h1).cons_inv
    have hs := h.sorted
    rw [List.pairwise_append] at hs
    have hzv := h.vals z (by simp)
    refine ⟨c, mem_setLists.2 ⟨hcl, hs.1, fun x hx => h.vals x (by simp [hx])⟩, by rw [hz]; omega, by rw [hz]; exact hf, ?_⟩
    rw [hz]
    exact ((sortI_perm _).symm.eq_of_pairwise (fun a b _ _ h1 h2 => by omega) h.sorted (sortI_sorted _))
  · rintro ⟨c, hc, h0, hf, rfl⟩
    have h := mem_setLists.1 hc
    have hp := sortI_perm (c ++ [complM p c])
    have hlt := complM_lt p c
    refine ⟨⟨by rw [sortI_len, List.length_append, h.len]; rfl, sortI_sorted _, fun x hx => ?_⟩, fullB_perm hp.symm hf⟩
    rcases List.mem_append.1 (hp.mem_iff.1 hx) with h1 | h1
    · exact h.vals x h1
    · rw [List.mem_singleton.1 h1]; omega

/-- The reference's way: no set less than the one before it. -/
theorem nodeFull_of' {p : Prob} {d : Nat} (hd : p.degree.toNat = d + 1) {l : List Int} : l ∈ nodeFull p ↔ ∃ c ∈ setLists p.labels.toNat d, complM p c ≠ 0 ∧ (∀ x ∈ c, x ≤ complM p c) ∧ fullB p (c ++ [complM p c]) = true ∧ l = c ++ [complM p c] := by
  rw [nodeFull_of hd]
  constructor
  · rintro ⟨c, hc, h0, hf, rfl⟩
    have h1 : sortI (c ++ [complM p c]) ∈ nodeFull p := (nodeFull_of hd).2 ⟨c, hc, h0, hf, rfl⟩
    obtain ⟨hS, hF⟩ := mem_nodeFull.1 h1
    generalize sortI (c ++ [complM p c]) = l at hS hF
    have hne : l ≠ [] := by rintro rfl; have := hS.len; simp at this; omega
    obtain ⟨e, z, rfl⟩ : ∃ e z, l = e ++ [z] := ⟨l.dropLast, l.getLast hne, (List.dropLast_concat_getLast hne).symm⟩
    have hel : e.length = d := by have := hS.len; rw [hd] at this; simp at this; exact this
    have hz : complM p e = z := by
      have := fullB_iff.1 hF z (by simp)
      rw [← this]
      apply complM_perm
      have h1 : (e ++ [z]).Perm (z :: (e ++ [z]).erase z) := List.perm_cons_erase (by simp)
      have h2 : (e ++ [z]).Perm (z :: e) := List.perm_append_comm
      exact (h2.symm.trans h1).cons_inv
    have hs := hS.sorted
    rw [List.pairwise_append] at hs
    have hzv := hS.vals z (by simp)
    refine ⟨e, mem_setLists.2 ⟨hel, hs.1, fun x hx => hS.vals x (by simp [hx])⟩, by rw [hz]; omega, fun x hx => by rw [hz]; exact hs.2.2 x hx z (by simp), by rw [hz]; exact hF, by rw [hz]⟩
  · rintro ⟨c, hc, h0, hle, hf, rfl⟩
    have h := mem_setLists.1 hc
    refine ⟨c, hc, h0, hf, ?_⟩
    refine ((sortI_perm _).symm.eq_of_pairwise (fun a b _ _ h1 h2 => by omega) ?_ (sortI_sorted _))
    rw [List.pairwise_append]
    exact ⟨h.sorted, List.pairwise_singleton _ _, fun x hx y hy => by rw [List.mem_singleton.1 hy]; exact hle x hx⟩

/-! ### The problems after the steps are problems -/

structure EdAsked (p : Prob) : Prop where
  good : PGood p
  few : 1 ≤ (edgeSets p).length ∧ (edgeSets p).length ≤ 8

structure NdAsked (p : Prob) : Prop where
  good : PGood p
  fits : ¬ (p.degree = 4 ∧ 6 < p.labels)
  few : 1 ≤ (nodeSets p).length ∧ (nodeSets p).length ≤ 8

theorem EdAsked.made {p : Prob} (h : EdAsked p) : PGood (edgeP p) := by
  have e2 : (p.degree.toNat : Int) = p.degree := by have := h.good.deg; omega
  have hn := conf_filter (n := (edgeSets p).length) (k := p.degree.toNat) fun c => (prodL (listsAt (edgeSets p) c)).any (nodeB p)
  have he := conf_filter (n := (edgeSets p).length) (k := 2) fun c => ((edgeFull p).map (numsOf (edgeSets p))).contains c
  rw [e2] at hn
  have hf := h.few
  exact ⟨⟨by show (1 : Int) ≤ ((edgeSets p).length : Nat); omega, by show ((edgeSets p).length : Int) ≤ 8; omega⟩, h.good.deg, hn, he⟩

theorem NdAsked.made {p : Prob} (h : NdAsked p) : PGood (nodeP p) := by
  have e2 : (p.degree.toNat : Int) = p.degree := by have := h.good.deg; omega
  have hn := conf_filter (n := (nodeSets p).length) (k := p.degree.toNat) fun c => ((nodeFull p).map (numsOf (nodeSets p))).contains c
  have he := conf_filter (n := (nodeSets p).length) (k := 2) fun c => (prodL (listsAt (nodeSets p) c)).any (nodeB2 p)
  rw [e2] at hn
  have hf := h.few
  exact ⟨⟨by show (1 : Int) ≤ ((nodeSets p).length : Nat); omega, by show ((nodeSets p).length : Int) ≤ 8; omega⟩, h.good.deg, hn, he⟩

/-- What both steps ask, and what they give. -/
structure ElAsked (p : Prob) : Prop where
  edge : EdAsked p
  node : NdAsked (edgeP p)

end Go.Proofs.YtaeledhbkdakcaaGreatDoor
end
