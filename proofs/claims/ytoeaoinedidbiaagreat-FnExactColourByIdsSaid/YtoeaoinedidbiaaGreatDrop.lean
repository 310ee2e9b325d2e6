/- The least number that is free, and the rounds that drop a colour: DropColour, both sides. -/
import Derived.Test.YtoeaoinedidbiaaGreatCol
import Derived.Test.YtoeaoinedidbiaaGreatMark
import Derived.Test.YtoeaoinedidbiaaGreatLib
namespace Go.Proofs.YtoeaoinedidbiaaGreat
open Go.GX Go.RowKit
set_option maxRecDepth 100000

/-- The least number that is not in a list. -/
def mex (l : List Int) : Nat := ((List.range (l.length + 1)).find? fun (u : Nat) => !l.contains (u : Int)).getD 0

theorem full_le : ∀ (c : Nat) (l : List Int), (∀ u < c, (u : Int) ∈ l) → c ≤ l.length
  | 0, _, _ => Nat.zero_le _
  | c + 1, l, h => by
    have h1 := full_le c (l.erase (c : Int)) fun u hu => (List.mem_erase_of_ne (by omega)).2 (h u (by omega))
    rw [List.length_erase_of_mem (h c (by omega))] at h1
    have : 0 < l.length := List.length_pos_of_mem (h c (by omega))
    omega

theorem mex_of {l : List Int} {c : Nat} (h1 : ∀ u < c, (u : Int) ∈ l) (h2 : (c : Int) ∉ l) : mex l = c := by
  have hc := full_le c l h1
  have : (List.range (l.length + 1)).find? (fun (u : Nat) => !l.contains (u : Int)) = some c := by
    rw [List.find?_range_eq_some]
    refine ⟨by simpa using h2, by simp; omega, fun j hj => by simpa using h1 j hj⟩
  unfold mex; rw [this]; rfl

theorem mex_le (l : List Int) : mex l ≤ l.length := by
  unfold mex
  cases h : (List.range (l.length + 1)).find? (fun (u : Nat) => !l.contains (u : Int)) with
  | none => simp
  | some c => have := List.mem_of_find?_eq_some h; simp at this; simp; omega

theorem leastFree_ok {w : World} {s : Sl} {l : List Int} (h : R w s l) :
    Calls Tryz.prog F.i_leastFree #[s.v] w (Ret [.at (.int .i64)] fun (r : Int) w' => r = mex l ∧ w = w') := by
  refine C_i_leastFree ?_
  unfold V_i_leastFree
  have hle := h.le
  refine ⟨fun x w' => w = w' ∧ ∃ c : Nat, x = c ∧ ∀ u < c, (u : Int) ∈ l, fun x _ => l.length + 1 - x.toNat, ⟨rfl, 0, rfl, fun u hu => absurd hu (by omega)⟩, ?_⟩
  rintro x _ ⟨rfl, c, rfl, hc⟩
  intros
  refine call (contains_ok h _) ?_
  rintro y _ ⟨rfl, rfl⟩
  have hcl := full_le c l hc
  refine cond_b (fun ht => ?_) (fun hf => ⟨by rw [mex_of hc (by simpa using hf)], rfl⟩)
  have hm : (c : Int) ∈ l := by simpa using ht
  have hcl2 := full_le (c + 1) l (all_succ hc hm)
  rw [wrap_of (by omega) (by omega)]
  exact ⟨⟨rfl, c + 1, by omega, all_succ hc hm⟩, by show l.length + 1 - (_ : Int).toNat < l.length + 1 - (_ : Int).toNat; omega⟩

theorem clLeast_ok {w : World} {s : Sl} {l : List Int} (h : R w s l) :
    Calls Tryz.prog F.s_clLeast #[s.v] w (Ret [.at (.int .i64)] fun (r : Int) w' => r = mex l ∧ w = w') := by
  refine C_s_clLeast ?_
  unfold V_s_clLeast
  have hle := h.le
  refine ⟨fun x w' => w = w' ∧ ∃ c : Nat, x = c ∧ ∀ u < c, (u : Int) ∈ l, fun x _ => l.length + 1 - x.toNat, ⟨rfl, 0, rfl, fun u hu => absurd hu (by omega)⟩, ?_⟩
  rintro x _ ⟨rfl, c, rfl, hc⟩
  intros
  refine call (l1Has_ok h _) ?_
  rintro y _ ⟨rfl, rfl⟩
  have hcl := full_le c l hc
  refine cond_b (fun ht => ?_) (fun hf => ⟨by rw [mex_of hc (by simpa using hf)], rfl⟩)
  have hm : (c : Int) ∈ l := by simpa using ht
  have hcl2 := full_le (c + 1) l (all_succ hc hm)
  rw [wrap_of (by omega) (by omega)]
  exact ⟨⟨rfl, c + 1, by omega, all_succ hc hm⟩, by show l.length + 1 - (_ : Int).toNat < l.length + 1 - (_ : Int).toNat; omega⟩

theorem coThrough_ok {w : World} {s t : Sl} {l m : List Int} (hl : R w s l) (hm : R w t m) (hin : ∀ x ∈ m, ∃ u : Nat, x = u ∧ u < l.length) (hml : m.length ≤ 1048576) :
    Calls Tryz.prog F.s_coThrough #[s.v, t.v] w (Ret [.at .sl] fun (r : Sl) w' => Ext w w' ∧ OwnL w' w.heap.size T.t_int r (m.map fun u => l.getD u.toNat 0)) := by
  refine C_s_coThrough ?_
  unfold V_s_coThrough
  rw [hm.len]
  refine ⟨IN2 m.length fun i out w' => Ext w w' ∧ OwnL w' w.heap.size T.t_int out ((m.take i).map fun u => l.getD u.toNat 0), MN2 m.length, IN2_zero ⟨Ext.refl _, by simpa using OwnL.nil _ _ _⟩, ?_⟩
  rintro out _ w2 ⟨i, rfl, hi, hE, hO⟩
  intros
  replace hl := hl.ext hE
  replace hm := hm.ext hE
  refine cond_dec (fun hlt => ?_) (fun hge => ?_)
  · have hi' : i < m.length := by omega
    refine hm.ixI hi' fun q _ hc => LD_int hc ?_
    obtain ⟨u, hu, hul⟩ := hin _ (List.getElem_mem hi')
    rw [hu]
    refine hl.ixI hul fun q h64 hc => LD_int hc ?_
    refine RUN_lit1 (α := Int) slt_int l[u] rfl (by decide) fun r w5 hE5 hO5 => ?_
    replace hE := hE.ext hE5
    replace hO := hO.ext hE5
    refine RUN_append (α := Int) slt_int hO hE.size_le (hO5.rep (by intro z hz; simp at hz; subst hz; exact h64)).any (by simp; omega) (by simp [maxLen]; omega) fun r' w6 hO6 hs6 => ?_
    refine IN2_next hm.le hi' ⟨hs6.ext0 hE (fun k hk => (hO.blk k hk).1), ?_⟩
    rw [map_take_succ hi', hu]
    simpa [hul] using hO6
  · have : i = m.length := by omega
    subst this
    exact ⟨hE, by simpa using hO⟩

theorem near_I64 {n : Net} (hg : Good n) {l : List Int} (hl : ∀ x ∈ l, I64 x) (hlen : l.length = n.ends.length) {v : Nat} (hv : v < n.ends.length) : ∀ x ∈ nearOf n.ends l v, I64 x := by
  intro x hx
  rw [near_adj] at hx
  obtain ⟨u, hu, rfl⟩ := List.mem_map.1 hx
  obtain ⟨m, rfl, hm⟩ := adj_ok hg hv u hu
  have : m < l.length := by omega
  simp [this]
  exact hl _ (List.getElem_mem this)

theorem near_len {n : Net} (hg : Good n) (l : List Int) {v : Nat} (hv : v < n.ends.length) : (nearOf n.ends l v).length ≤ 6 := by
  rw [near_adj, List.length_map, adj_len hg hv]; exact hg.deg hv

/-- The neighbours' numbers, as the reference reads them. -/
theorem through_ok {w : World} {a b c s t : Sl} {n : Net} {l : List Int} (h : RNet w a b c n) (hl : R w s l) (hg : Good n) (hlen : l.length = n.ends.length) {v : Nat} (hv : v < n.ends.length) {base : Nat} (ht : OwnL w base T.t_int t (adjOf n.ends v)) :
    Calls Tryz.prog F.s_coThrough #[s.v, t.v] w (Ret [.at .sl] fun (r : Sl) w' => Ext w w' ∧ OwnL w' w.heap.size T.t_int r (nearOf n.ends l v)) := by
  rw [near_adj]
  refine coThrough_ok hl (ht.rep (adj_I64 hg hv)).any (fun x hx => ?_) (by rw [adj_len hg hv]; have := hg.deg hv; omega)
  obtain ⟨u, hu, hul⟩ := adj_ok hg hv x hx
  exact ⟨u, hu, by omega⟩

/-! ### Dropping -/

def dropAt (E : Ends) (l : List Int) (c : Int) (v : Nat) : Int := if l.getD v 0 = c then mex (nearOf E l v) else l.getD v 0
def dropOf (E : Ends) (l : List Int) (c : Int) : List Int := (List.range l.length).map (dropAt E l c)

theorem dropOf_len (E : Ends) (l : List Int) (c : Int) : (dropOf E l c).length = l.length := by simp [dropOf]

theorem dropAt_I64 {n : Net} (hg : Good n) {l : List Int} (hl : ∀ x ∈ l, I64 x) (hlen : l.length = n.ends.length) (c : Int) : ∀ v < l.length, I64 (dropAt n.ends l c v) := by
  intro v hv
  unfold dropAt
  split
  · have := mex_le (nearOf n.ends l v)
    have := near_len hg l (v := v) (by omega)
    unfold I64; omega
  · simp [hv]; exact hl _ (List.getElem_mem hv)

theorem dropOf_I64 {n : Net} (hg : Good n) {l : List Int} (hl : ∀ x ∈ l, I64 x) (hlen : l.length = n.ends.length) (c : Int) : ∀ x ∈ dropOf n.ends l c, I64 x := by
  intro x hx
  obtain ⟨v, hv, rfl⟩ := List.mem_map.1 hx
  exact dropAt_I64 hg hl hlen c v (by simpa using hv)

theorem dropColour_ok {w : World} {a b c s : Sl} {n : Net} {l : List Int} (h : RNet w a b c n) (hl : R w s l) (hg : Good n) (hlen : l.length = n.ends.length) (k : Int) :
    Calls Tryz.prog F.i_dropColour #[.agg #[a.v, b.v, c.v], s.v, .int .i64 k] w (Ret [.at .sl] fun (r : Sl) w' => Ext w w' ∧ OwnL w' w.heap.size T.t_int r (dropOf n.ends l k)) := by
  refine C_i_dropColour ?_
  unfold V_i_dropColour
  have h40 := hg.size.2
  refine NEW_intro fun p w1 hp hs hE hb1 => ?_
  replace h := h.ext hE
  replace hl := hl.ext hE
  refine call (clone_ok hl (by omega)) ?_
  rintro r w2 ⟨hE2, hO2⟩
  rw [hO2.1]
  refine ⟨IN l.length fun i w' => Ext w1 w' ∧ OwnL w' w1.heap.size T.t_int r (mapTo (dropAt n.ends l k) l i), MN l.length, IN_zero ⟨hE2, by rw [mapTo_zero]; exact hO2⟩, ?_⟩
  rintro _ w3 ⟨v, rfl, hv, hE3, hO⟩
  intros
  have hl3 := hl.ext hE3
  refine cond_dec (fun hlt => ?_) (fun hge => ?_)
  · have hv' : v < l.length := by omega
    refine hl3.ixI hv' fun q _ hc => LD_int hc ?_
    refine cond_eq (fun he => ?_) (fun hne => IN_next hl.le hv' ⟨hE3, ?_⟩)
    · refine LD_box3 (hb1.ext hE3) ?_
      refine call (near_ok (h.ext hE3) hl3 hg hlen (by omega)) ?_
      rintro t w4 ⟨hE4, hO4⟩
      refine call (leastFree_ok (hO4.rep (near_I64 hg (flat_ok hl) hlen (by omega))).any) ?_
      rintro x _ ⟨rfl, rfl⟩
      replace hO := hO.ext hE4
      replace hE3 := hE3.ext hE4
      refine IX_own hO (by rw [mapTo_len _ hv]; exact hv') rfl fun q hq => ?_
      refine ST_own hO (by rw [mapTo_len _ hv]; exact hv') hq ((mex (nearOf n.ends l v) : Nat) : Int) rfl fun w5 hO5 hs5 => ?_
      refine IN_next hl.le hv' ⟨hs5.ext0 hE3 (fun k hk => (hO.blk k hk).1), ?_⟩
      rw [← mapTo_set _ hv', dropAt, if_pos (by simp [hv', he])]
      exact hO5
    · rw [← mapTo_same _ hv' (by unfold dropAt; rw [if_neg (by simpa [hv'] using hne)]; simp [hv'])]
      exact hO
  · have : v = l.length := by omega
    subst this
    rw [mapTo_all] at hO
    exact ⟨hE.trans hE3, hO.low hE.size_le⟩

theorem clDrop_ok {w : World} {a b c s : Sl} {n : Net} {l : List Int} (h : RNet w a b c n) (hl : R w s l) (hg : Good n) (hlen : l.length = n.ends.length) (k : Int) :
    Calls Tryz.prog F.s_clDrop #[.agg #[a.v, b.v, c.v], s.v, .int .i64 k] w (Ret [.at .sl] fun (r : Sl) w' => Ext w w' ∧ OwnL w' w.heap.size T.t_int r (dropOf n.ends l k)) := by
  refine C_s_clDrop ?_
  unfold V_s_clDrop
  have h40 := hg.size.2
  refine NEW_intro fun p w1 hp hs hE hb1 => ?_
  replace h := h.ext hE
  replace hl := hl.ext hE
  refine call (l1Own_ok hl (by omega)) ?_
  rintro r w2 ⟨hE2, hO2⟩
  rw [hl.len]
  refine ⟨IN l.length fun i w' => Ext w1 w' ∧ OwnL w' w1.heap.size T.t_int r (mapTo (dropAt n.ends l k) l i), MN l.length, IN_zero ⟨hE2, by rw [mapTo_zero]; exact hO2⟩, ?_⟩
  rintro _ w3 ⟨v, rfl, hv, hE3, hO⟩
  intros
  have hl3 := hl.ext hE3
  refine cond_dec (fun hlt => ?_) (fun hge => ?_)
  · have hv' : v < l.length := by omega
    refine hl3.ixI hv' fun q _ hc => LD_int hc ?_
    refine cond_eq (fun he => ?_) (fun hne => IN_next hl.le hv' ⟨hE3, ?_⟩)
    · refine LD_box3 (hb1.ext hE3) ?_
      refine call (neNear_ok (h.ext hE3) hg (by omega)) ?_
      rintro t0 w40 ⟨hE40, hO40⟩
      refine call (through_ok ((h.ext hE3).ext hE40) (hl3.ext hE40) hg hlen (by omega) hO40) ?_
      rintro t w4 ⟨hE4, hO4⟩
      refine call (clLeast_ok (hO4.rep (near_I64 hg (flat_ok hl) hlen (by omega))).any) ?_
      rintro x _ ⟨rfl, rfl⟩
      replace hO := hO.ext hE40
      replace hE3 := hE3.ext hE40
      replace hO := hO.ext hE4
      replace hE3 := hE3.ext hE4
      refine IX_own hO (by rw [mapTo_len _ hv]; exact hv') rfl fun q hq => ?_
      refine ST_own hO (by rw [mapTo_len _ hv]; exact hv') hq ((mex (nearOf n.ends l v) : Nat) : Int) rfl fun w5 hO5 hs5 => ?_
      refine IN_next hl.le hv' ⟨hs5.ext0 hE3 (fun k hk => (hO.blk k hk).1), ?_⟩
      rw [← mapTo_set _ hv', dropAt, if_pos (by simp [hv', he])]
      exact hO5
    · rw [← mapTo_same _ hv' (by unfold dropAt; rw [if_neg (by simpa [hv'] using hne)]; simp [hv'])]
      exact hO
  · have : v = l.length := by omega
    subst this
    rw [mapTo_all] at hO
    exact ⟨hE.trans hE3, hO.low hE.size_le⟩

structure DropAsked (n : Net) (l : List Int) (c : Int) : Prop where
  good : Good n
  proper : Proper n l
  whole : inR c 0 1000000000000 = true

end Go.Proofs.YtoeaoinedidbiaaGreat
