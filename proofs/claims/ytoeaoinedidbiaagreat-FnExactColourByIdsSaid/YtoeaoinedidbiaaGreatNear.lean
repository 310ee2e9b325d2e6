/- What a node's neighbours bear: both sides' walks over ports; the tests IsDefective and IsWeak. -/
import Derived.Test.YtoeaoinedidbiaaGreatGood
namespace Go.Proofs.YtoeaoinedidbiaaGreat
open Go.GX Go.RowKit
set_option maxRecDepth 100000

def rowOf (E : Ends) (v : Nat) : List (Int × Int) := E.getD v []
theorem rowOf_get {E : Ends} {v : Nat} (h : v < E.length) : rowOf E v = E[v] := by simp [rowOf, h]

/-- What lies at the far ends of a node's ports. -/
def nearOf (E : Ends) (l : List Int) (v : Nat) : List Int := (rowOf E v).map fun e => l.getD e.1.toNat 0
/-- The nodes at the far ends of a node's ports. -/
def adjOf (E : Ends) (v : Nat) : List Int := (rowOf E v).map (·.1)

theorem Good.far {n : Net} (hg : Good n) {v i : Nat} (hv : v < n.ends.length) (hi : i < n.ends[v].length) : ∃ x y : Nat, n.ends[v][i] = ((x : Int), (y : Int)) ∧ x < n.ends.length ∧ port n.ends x y = some ((v : Int), (i : Int)) := by
  obtain ⟨x, y, hxy, hb⟩ := hg.back hv hi
  obtain ⟨hx, _⟩ := port_some hb
  exact ⟨x, y, hxy, hx, hb⟩

theorem map_take_succ {α β : Type} {l : List α} {i : Nat} (hi : i < l.length) (f : α → β) : (l.take (i + 1)).map f = (l.take i).map f ++ [f l[i]] := by
  rw [List.take_succ_eq_append_getElem hi, List.map_append]; rfl

theorem near_ok {w : World} {a b c s : Sl} {n : Net} {l : List Int} (h : RNet w a b c n) (hl : R w s l) (hg : Good n) (hlen : l.length = n.ends.length) {v : Nat} (hv : v < n.ends.length) :
    Calls Tryz.prog F.i_near #[.agg #[a.v, b.v, c.v], .int .i64 v, s.v] w (Ret [.at .sl] fun (r : Sl) w' => Ext w w' ∧ OwnL w' w.heap.size T.t_int r (nearOf n.ends l v)) := by
  refine C_i_near ?_
  unfold V_i_near nearOf
  rw [rowOf_get hv]
  refine NEW_intro fun p w1 hp hs hE1 hb1 => LD_bs0 hb1 ?_
  replace h := h.ext hE1
  replace hl := hl.ext hE1
  refine h.1.ixL hv fun q s1 hR hc => LD_sl hc ?_
  rw [hR.len]
  have hle := hR.le
  refine ⟨IN2 n.ends[v].length fun i out w' => Ext w1 w' ∧ OwnL w' w1.heap.size T.t_int out ((n.ends[v].take i).map fun e => l.getD e.1.toNat 0), MN2 n.ends[v].length, IN2_zero ⟨Ext.refl _, by simpa using OwnL.nil _ _ _⟩, ?_⟩
  rintro out _ w2 ⟨i, rfl, hi, hE2, hO⟩
  intros
  refine cond_dec (fun hlt => ?_) (fun hge => ?_)
  · have hi' : i < n.ends[v].length := by omega
    replace hR := hR.ext hE2
    replace hl := hl.ext hE2
    refine hR.ixE hi' fun q _ _ hc0 hc1 => LD_int2 hc0 hc1 ?_
    refine NEW_ST (one2 _ _) rfl fun p6 w4 hp6 hE4 hb6 => ?_
    refine LD_bi0 hb6 ?_
    obtain ⟨x, y, hxy, hx, _⟩ := hg.far hv hi'
    have hx' : x < l.length := by omega
    rw [hxy]
    replace hE2 := hE2.ext hE4
    replace hO := hO.ext hE4
    replace hl := hl.ext hE4
    refine hl.ixI hx' fun q _ hc => LD_int hc ?_
    refine RUN_lit1 (α := Int) slt_int l[x] rfl (by decide) fun r w5 hE5 hO5 => ?_
    replace hE2 := hE2.ext hE5
    replace hO := hO.ext hE5
    have hd := hg.deg hv
    refine RUN_append (α := Int) slt_int hO hE2.size_le (hO5.rep (by intro z hz; simp at hz; subst hz; exact flat_ok hl _ (List.getElem_mem hx'))).any (by simp; omega) (by simp [maxLen]; omega) fun r' w6 hO6 hs6 => ?_
    refine IN2_next hle hi' ⟨hs6.ext0 hE2 (fun k hk => (hO.blk k hk).1), ?_⟩
    rw [map_take_succ hi', hxy]
    simpa [hx'] using hO6
  · have : i = n.ends[v].length := by omega
    subst this
    exact ⟨hE1.trans hE2, (by simpa using hO : OwnL w2 w1.heap.size T.t_int out (n.ends[v].map fun e => l.getD e.1.toNat 0)).low hE1.size_le⟩

theorem neNear_ok {w : World} {a b c : Sl} {n : Net} (h : RNet w a b c n) (hg : Good n) {v : Nat} (hv : v < n.ends.length) :
    Calls Tryz.prog F.s_neNear #[.agg #[a.v, b.v, c.v], .int .i64 v] w (Ret [.at .sl] fun (r : Sl) w' => Ext w w' ∧ OwnL w' w.heap.size T.t_int r (adjOf n.ends v)) := by
  refine C_s_neNear ?_
  unfold V_s_neNear adjOf
  rw [rowOf_get hv]
  refine NEW_intro fun p w1 hp hs hE1 hb1 => LD_bs0 hb1 ?_
  replace h := h.ext hE1
  refine h.1.ixL hv fun q s1 hR hc => LD_sl hc ?_
  rw [hR.len]
  have hle := hR.le
  refine ⟨IN2 n.ends[v].length fun i out w' => Ext w1 w' ∧ OwnL w' w1.heap.size T.t_int out ((n.ends[v].take i).map (·.1)), MN2 n.ends[v].length, IN2_zero ⟨Ext.refl _, by simpa using OwnL.nil _ _ _⟩, ?_⟩
  rintro out _ w2 ⟨i, rfl, hi, hE2, hO⟩
  intros
  refine cond_dec (fun hlt => ?_) (fun hge => ?_)
  · have hi' : i < n.ends[v].length := by omega
    replace hR := hR.ext hE2
    refine hR.ixE hi' fun q h1 _ hc0 hc1 => LD_int2 hc0 hc1 ?_
    refine NEW_ST (one2 _ _) rfl fun p6 w4 hp6 hE4 hb6 => ?_
    refine LD_bi0 hb6 ?_
    replace hE2 := hE2.ext hE4
    replace hO := hO.ext hE4
    refine RUN_lit1 (α := Int) slt_int n.ends[v][i].1 rfl (by decide) fun r w5 hE5 hO5 => ?_
    replace hE2 := hE2.ext hE5
    replace hO := hO.ext hE5
    have hd := hg.deg hv
    refine RUN_append (α := Int) slt_int hO hE2.size_le (hO5.rep (by intro z hz; simp at hz; subst hz; exact h1)).any (by simp; omega) (by simp [maxLen]; omega) fun r' w6 hO6 hs6 => ?_
    refine IN2_next hle hi' ⟨hs6.ext0 hE2 (fun k hk => (hO.blk k hk).1), ?_⟩
    rw [map_take_succ hi']
    exact hO6
  · have : i = n.ends[v].length := by omega
    subst this
    exact ⟨hE1.trans hE2, (by simpa using hO : OwnL w2 w1.heap.size T.t_int out (n.ends[v].map (·.1))).low hE1.size_le⟩

theorem adj_ok {n : Net} (hg : Good n) {v : Nat} (hv : v < n.ends.length) : ∀ x ∈ adjOf n.ends v, ∃ u : Nat, x = u ∧ u < n.ends.length := by
  intro x hx
  unfold adjOf at hx
  rw [rowOf_get hv] at hx
  obtain ⟨e, he, rfl⟩ := List.mem_map.1 hx
  obtain ⟨i, hi, rfl⟩ := List.mem_iff_getElem.1 he
  obtain ⟨x, y, hxy, hx, _⟩ := hg.far hv hi
  exact ⟨x, by rw [hxy], hx⟩

theorem adj_I64 {n : Net} (hg : Good n) {v : Nat} (hv : v < n.ends.length) : ∀ x ∈ adjOf n.ends v, Flat.ok x := by
  intro x hx
  obtain ⟨u, rfl, hu⟩ := adj_ok hg hv x hx
  have := hg.size.2
  show I64 _
  unfold I64
  omega

theorem adj_len {n : Net} (_ : Good n) {v : Nat} (hv : v < n.ends.length) : (adjOf n.ends v).length = n.ends[v].length := by
  unfold adjOf; rw [rowOf_get hv]; simp

theorem near_adj (E : Ends) (l : List Int) (v : Nat) : nearOf E l v = (adjOf E v).map fun u => l.getD u.toNat 0 := by
  unfold nearOf adjOf; rw [List.map_map]; rfl

/-- How many neighbours bear c. -/
def sameCount (E : Ends) (l : List Int) (v : Nat) (c : Int) : Nat := (nearOf E l v).count c

theorem count_take_succ {l : List Int} {i : Nat} (hi : i < l.length) (c : Int) : (l.take (i + 1)).count c = (l.take i).count c + if l[i] == c then 1 else 0 := by
  rw [List.take_succ_eq_append_getElem hi, List.count_append, List.count_singleton]

/-! ### Colours -/

structure ColoursOk (n : Net) (l : List Int) : Prop where
  good : Good n
  len : l.length = n.ends.length
  all : AllIn l 0 1000000000000

/-! ### IsDefective -/

def Defective (n : Net) (l : List Int) (d : Int) : Prop := ∀ v < l.length, (sameCount n.ends l v (l.getD v 0) : Int) ≤ d

/-! ### IsWeak -/

def WeakAt (n : Net) (l : List Int) (v : Nat) : Prop := 0 < (rowOf n.ends v).length → sameCount n.ends l v (l.getD v 0) ≠ (rowOf n.ends v).length

def Weak (n : Net) (l : List Int) : Prop := ∀ v < n.ends.length, WeakAt n l v

end Go.Proofs.YtoeaoinedidbiaaGreat
