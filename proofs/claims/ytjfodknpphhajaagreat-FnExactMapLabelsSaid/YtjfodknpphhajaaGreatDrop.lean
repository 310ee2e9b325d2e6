/- The least number that is free, and the rounds that drop a colour: DropColour, both sides. -/
import Derived.Test.YtjfodknpphhajaaGreatCol
import Derived.Test.YtjfodknpphhajaaGreatMark
import Derived.Test.YtjfodknpphhajaaGreatLib
namespace Go.Proofs.YtjfodknpphhajaaGreat
open Go.GX Go.RowKit
set_option maxRecDepth 100000

/-- The least number that is not in a list. -/
def mex (l : List Int) : Nat := ((List.range (l.length + 1)).find? fun (u : Nat) => !l.contains (u : Int)).getD 0

theorem full_le : ∀ (c : Nat) (l : List Int), (∀ u < c, (u : Int) ∈ l) → c ≤ l.length
  | 0, _, _ => Nat.zero_le _
  | c + 1, l, h => by
    have h1 := full_le c (l.erase (c : Int)) fun u hu => (List.mem_erase_of_ne (by omega)).2 (h u (by omega))
    rw [List.length_erase_of_mem (h c (by omega))] at h1
    have : 0 < l.length := List.length_pos_of_mem (h c (by omega))
    omega

theorem mex_of {l : List Int} {c : Nat} (h1 : ∀ u < c, (u : Int) ∈ l) (h2 : (c : Int) ∉ l) : mex l = c := by
  have hc := full_le c l h1
  have : (List.range (l.length + 1)).find? (fun (u : Nat) => !l.contains (u : Int)) = some c := by
    rw [List.find?_range_eq_some]
    refine ⟨by simpa using h2, by simp; omega, fun j hj => by simpa using h1 j hj⟩
  unfold mex; rw [this]; rfl

theorem mex_le (l : List Int) : mex l ≤ l.length := by
  unfold mex
  cases h : (List.range (l.length + 1)).find? (fun (u : Nat) => !l.contains (u : Int)) with
  | none => simp
  | some c => have := List.mem_of_find?_eq_some h; simp at this; simp; omega

theorem coThrough_ok {w : World} {s t : Sl} {l m : List Int} (hl : R w s l) (hm : R w t m) (hin : ∀ x ∈ m, ∃ u : Nat, x = u ∧ u < l.length) (hml : m.length ≤ 1048576) :
    Calls Tryz.prog F.s_coThrough #[s.v, t.v] w (Ret [.at .sl] fun (r : Sl) w' => Ext w w' ∧ OwnL w' w.heap.size T.t_int r (m.map fun u => l.getD u.toNat 0)) := by
  refine C_s_coThrough ?_
  unfold V_s_coThrough
  rw [hm.len]
  refine ⟨IN2 m.length fun i out w' => Ext w w' ∧ OwnL w' w.heap.size T.t_int out ((m.take i).map fun u => l.getD u.toNat 0), MN2 m.length, IN2_zero ⟨Ext.refl _, by simpa using OwnL.nil _ _ _⟩, ?_⟩
  rintro out _ w2 ⟨i, rfl, hi, hE, hO⟩
  intros
  replace hl := hl.ext hE
  replace hm := hm.ext hE
  refine cond_dec (fun hlt => ?_) (fun hge => ?_)
  · have hi' : i < m.length := by omega
    refine hm.ixI hi' fun q _ hc => LD_int hc ?_
    obtain ⟨u, hu, hul⟩ := hin _ (List.getElem_mem hi')
    rw [hu]
    refine hl.ixI hul fun q h64 hc => LD_int hc ?_
    refine RUN_lit1 (α := Int) slt_int l[u] rfl (by decide) fun r w5 hE5 hO5 => ?_
    replace hE := hE.ext hE5
    replace hO := hO.ext hE5
    refine RUN_append (α := Int) slt_int hO hE.size_le (hO5.rep (by intro z hz; simp at hz; subst hz; exact h64)).any (by simp; omega) (by simp [maxLen]; omega) fun r' w6 hO6 hs6 => ?_
    refine IN2_next hm.le hi' ⟨hs6.ext0 hE (fun k hk => (hO.blk k hk).1), ?_⟩
    rw [map_take_succ hi', hu]
    simpa [hul] using hO6
  · have : i = m.length := by omega
    subst this
    exact ⟨hE, by simpa using hO⟩

theorem near_I64 {n : Net} (hg : Good n) {l : List Int} (hl : ∀ x ∈ l, I64 x) (hlen : l.length = n.ends.length) {v : Nat} (hv : v < n.ends.length) : ∀ x ∈ nearOf n.ends l v, I64 x := by
  intro x hx
  rw [near_adj] at hx
  obtain ⟨u, hu, rfl⟩ := List.mem_map.1 hx
  obtain ⟨m, rfl, hm⟩ := adj_ok hg hv u hu
  have : m < l.length := by omega
  simp [this]
  exact hl _ (List.getElem_mem this)

theorem near_len {n : Net} (hg : Good n) (l : List Int) {v : Nat} (hv : v < n.ends.length) : (nearOf n.ends l v).length ≤ 6 := by
  rw [near_adj, List.length_map, adj_len hg hv]; exact hg.deg hv

/-- The neighbours' numbers, as the reference reads them. -/
theorem through_ok {w : World} {a b c s t : Sl} {n : Net} {l : List Int} (h : RNet w a b c n) (hl : R w s l) (hg : Good n) (hlen : l.length = n.ends.length) {v : Nat} (hv : v < n.ends.length) {base : Nat} (ht : OwnL w base T.t_int t (adjOf n.ends v)) :
    Calls Tryz.prog F.s_coThrough #[s.v, t.v] w (Ret [.at .sl] fun (r : Sl) w' => Ext w w' ∧ OwnL w' w.heap.size T.t_int r (nearOf n.ends l v)) := by
  rw [near_adj]
  refine coThrough_ok hl (ht.rep (adj_I64 hg hv)).any (fun x hx => ?_) (by rw [adj_len hg hv]; have := hg.deg hv; omega)
  obtain ⟨u, hu, hul⟩ := adj_ok hg hv x hx
  exact ⟨u, hu, by omega⟩

/-! ### Dropping -/

def dropAt (E : Ends) (l : List Int) (c : Int) (v : Nat) : Int := if l.getD v 0 = c then mex (nearOf E l v) else l.getD v 0
def dropOf (E : Ends) (l : List Int) (c : Int) : List Int := (List.range l.length).map (dropAt E l c)

theorem dropOf_len (E : Ends) (l : List Int) (c : Int) : (dropOf E l c).length = l.length := by simp [dropOf]

theorem dropAt_I64 {n : Net} (hg : Good n) {l : List Int} (hl : ∀ x ∈ l, I64 x) (hlen : l.length = n.ends.length) (c : Int) : ∀ v < l.length, I64 (dropAt n.ends l c v) := by
  intro v hv
  unfold dropAt
  split
  · have := mex_le (nearOf n.ends l v)
    have := near_len hg l (v := v) (by omega)
    unfold I64; omega
  · simp [hv]; exact hl _ (List.getElem_mem hv)

theorem dropOf_I64 {n : Net} (hg : Good n) {l : List Int} (hl : ∀ x ∈ l, I64 x) (hlen : l.length = n.ends.length) (c : Int) : ∀ x ∈ dropOf n.ends l c, I64 x := by
  intro x hx
  obtain ⟨v, hv, rfl⟩ := List.mem_map.1 hx
  exact dropAt_I64 hg hl hlen c v (by simpa using hv)

structure DropAsked (n : Net) (l : List Int) (c : Int) : Prop where
  good : Good n
  proper : Proper n l
  whole : inR c 0 1000000000000 = true

end Go.Proofs.YtjfodknpphhajaaGreat
