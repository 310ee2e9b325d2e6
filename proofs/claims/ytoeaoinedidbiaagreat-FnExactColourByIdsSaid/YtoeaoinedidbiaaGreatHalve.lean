/- Halving a palette: HalveColours, both sides. -/
import Derived.Test.YtoeaoinedidbiaaGreatReduce
namespace Go.Proofs.YtoeaoinedidbiaaGreat
open Go.GX Go.RowKit
set_option maxRecDepth 100000

theorem d_cases {d : Int} (h : 0 ≤ d ∧ d ≤ 6) : d = 0 ∨ d = 1 ∨ d = 2 ∨ d = 3 ∨ d = 4 ∨ d = 5 ∨ d = 6 := by omega

theorem halve_arith {d x : Int} (hd : 0 ≤ d ∧ d ≤ 6) (h0 : 0 ≤ x) (h1 : x ≤ 1000000000000) :
    0 ≤ x / (2 * (d + 1)) ∧ x / (2 * (d + 1)) ≤ x ∧ x / (2 * (d + 1)) * (2 * (d + 1)) = x - x % (2 * (d + 1)) ∧ 0 ≤ x % (2 * (d + 1)) ∧ x % (2 * (d + 1)) < 2 * (d + 1) ∧ x % (2 * (d + 1)) ≤ x ∧
      0 ≤ x / (2 * (d + 1)) * (d + 1) ∧ x / (2 * (d + 1)) * (d + 1) ≤ x := by
  rcases d_cases hd with rfl | rfl | rfl | rfl | rfl | rfl | rfl <;> (refine ⟨?_, ?_, ?_, ?_, ?_, ?_, ?_, ?_⟩ <;> omega)

/-- Places within a block that the neighbours have. -/
def placesOf (d x : Int) (near : List Int) : List Int := (near.filter fun y => y / (2 * (d + 1)) == x / (2 * (d + 1))).map fun y => y % (2 * (d + 1))

theorem places_snoc (d x : Int) (l : List Int) (y : Int) : placesOf d x (l ++ [y]) = placesOf d x l ++ if y / (2 * (d + 1)) == x / (2 * (d + 1)) then [y % (2 * (d + 1))] else [] := by
  unfold placesOf
  rw [List.filter_append, List.map_append, List.filter_cons, List.filter_nil]
  split <;> rfl

theorem places_len (d x : Int) (l : List Int) : (placesOf d x l).length ≤ l.length := by
  unfold placesOf
  rw [List.length_map]
  exact List.length_filter_le _ _

def halveAt (E : Ends) (d r : Int) (l : List Int) (v : Nat) : Int :=
  if l.getD v 0 % (2 * (d + 1)) ≠ d + 1 + r then l.getD v 0 else l.getD v 0 / (2 * (d + 1)) * (2 * (d + 1)) + mex (placesOf d (l.getD v 0) (nearOf E l v))
def halveR (E : Ends) (d r : Int) (l : List Int) : List Int := (List.range l.length).map (halveAt E d r l)

def halveTo (E : Ends) (d : Int) (l : List Int) : Nat → List Int
  | 0 => l
  | r + 1 => halveR E d (r : Int) (halveTo E d l r)

def halfAt (d x : Int) : Int := x / (2 * (d + 1)) * (d + 1) + x % (2 * (d + 1))
def halveOf (E : Ends) (d : Int) (l : List Int) : List Int := (halveTo E d l (d + 1).toNat).map (halfAt d)
def palOf (d k : Int) : Int := (k + 2 * (d + 1) - 1) / (2 * (d + 1)) * (d + 1)

structure HalOk (n : Net) (d : Int) (l : List Int) : Prop extends ColsOk n d l where
  le : ∀ x ∈ l, x ≤ 1000000000000

theorem near_mem {n : Net} (hg : Good n) {l : List Int} (hlen : l.length = n.ends.length) {v : Nat} (hv : v < n.ends.length) : ∀ x ∈ nearOf n.ends l v, x ∈ l := by
  intro x hx
  rw [near_adj] at hx
  obtain ⟨u, hu, rfl⟩ := List.mem_map.1 hx
  obtain ⟨m, rfl, hm⟩ := adj_ok hg hv u hu
  have : m < l.length := by omega
  simp [this]

theorem halveAt_le {n : Net} {d : Int} {l : List Int} (h : HalOk n d l) (hd : 0 ≤ d ∧ d ≤ 6) {r : Int} (hr : 0 ≤ r) {v : Nat} (hv : v < l.length) : 0 ≤ halveAt n.ends d r l v ∧ halveAt n.ends d r l v ≤ l[v] := by
  have hve : v < n.ends.length := by rw [← h.len]; exact hv
  have h0 := h.nn _ (List.getElem_mem hv)
  have h1 := h.le _ (List.getElem_mem hv)
  obtain ⟨a1, a2, a3, a4, a5, a6, _, _⟩ := halve_arith hd h0 h1
  unfold halveAt
  have hg : l.getD v 0 = l[v] := by simp [hv]
  rw [hg]
  split
  · omega
  · rename_i hne
    have hm := mex_le (placesOf d l[v] (nearOf n.ends l v))
    have hp := places_len d l[v] (nearOf n.ends l v)
    have hn : (nearOf n.ends l v).length = n.ends[v].length := by rw [near_adj, List.length_map, adj_len h.good hve]
    have := h.deg v hve
    rw [a3]
    omega

theorem HalOk.next {n : Net} {d : Int} {l : List Int} (h : HalOk n d l) (hd : 0 ≤ d ∧ d ≤ 6) {r : Int} (hr : 0 ≤ r) : HalOk n d (halveR n.ends d r l) := by
  have key : ∀ x ∈ halveR n.ends d r l, 0 ≤ x ∧ x ≤ 1000000000000 := fun x hx => by
    obtain ⟨v, hv, rfl⟩ := List.mem_map.1 hx
    have hv' : v < l.length := by simpa using hv
    have := halveAt_le h hd hr hv'
    have := h.le _ (List.getElem_mem hv')
    omega
  exact ⟨⟨h.good, by simp [halveR, h.len], fun x hx => (key x hx).1, fun x hx => by have := key x hx; unfold I64; omega, h.deg⟩, fun x hx => (key x hx).2⟩

theorem HalOk.to {n : Net} {d : Int} {l : List Int} (h : HalOk n d l) (hd : 0 ≤ d ∧ d ≤ 6) : ∀ r, HalOk n d (halveTo n.ends d l r)
  | 0 => h
  | r + 1 => (h.to hd r).next hd (by omega)

theorem halfAt_ok {d x : Int} (hd : 0 ≤ d ∧ d ≤ 6) (h0 : 0 ≤ x) (h1 : x ≤ 1000000000000) : 0 ≤ halfAt d x ∧ halfAt d x ≤ 2000000000000 := by
  obtain ⟨a1, a2, a3, a4, a5, a6, a7, a8⟩ := halve_arith hd h0 h1
  unfold halfAt
  omega

/-- A better bound: half of the palette. -/
theorem halfAt_lt {d k x : Int} (hd : 0 ≤ d ∧ d ≤ 6) (h0 : 0 ≤ x) (h1 : x < k) (hk : k ≤ 1000000000000) (hx : x % (2 * (d + 1)) ≤ d) : halfAt d x < palOf d k := by
  unfold halfAt palOf
  rcases d_cases hd with rfl | rfl | rfl | rfl | rfl | rfl | rfl <;> omega

theorem pal_arith {d k : Int} (hd : 0 ≤ d ∧ d ≤ 6) (hk : 0 ≤ k ∧ k ≤ 1000000000000) : 0 ≤ (k + 2 * (d + 1) - 1) / (2 * (d + 1)) ∧ (k + 2 * (d + 1) - 1) / (2 * (d + 1)) ≤ 2000000000000 ∧ 0 ≤ palOf d k ∧ palOf d k ≤ 2000000000000 := by
  unfold palOf
  rcases d_cases hd with rfl | rfl | rfl | rfl | rfl | rfl | rfl <;> (refine ⟨?_, ?_, ?_, ?_⟩ <;> omega)

theorem tdiv_nn {x s : Int} (h : 0 ≤ x) : Int.tdiv x s = x / s := Int.tdiv_eq_ediv_of_nonneg h
theorem tmod_nn {x s : Int} (h : 0 ≤ x) : Int.tmod x s = x % s := Int.tmod_eq_emod_of_nonneg h

theorem halveColours_ok {w : World} {a b c s : Sl} {n : Net} {l : List Int} {d : Int} (h : RNet w a b c n) (hl : R w s l) (hC : HalOk n d l) (hd : 0 ≤ d ∧ d ≤ 6) {k : Int} (hk : 0 ≤ k ∧ k ≤ 1000000000000) :
    Calls Tryz.prog F.i_halveColours #[.agg #[a.v, b.v, c.v], s.v, .int .i64 k, .int .i64 d] w (Ret [.at .sl, .at (.int .i64)] fun (r : Sl) (x : Int) w' => Ext w w' ∧ OwnL w' w.heap.size T.t_int r (halveOf n.ends d l) ∧ x = palOf d k) := by
  refine C_i_halveColours ?_
  unfold V_i_halveColours
  have h40 := hC.good.size
  have hlen := hC.len
  have e1 : IntKind.i64.wrap (d + 1) = d + 1 := wrap_of (by omega) (by omega)
  have e2 : IntKind.i64.wrap (2 * (d + 1)) = 2 * (d + 1) := wrap_of (by omega) (by omega)
  have hS : (2 * (d + 1) : Int) ≠ 0 := by omega
  simp only [e1, e2]
  refine NEW_intro fun p w1 hp hs hE hb1 => ?_
  replace h := h.ext hE
  replace hl := hl.ext hE
  refine call (clone_ok hl (by omega)) ?_
  rintro out w2 ⟨hE2, hO2⟩
  have hob := hO2.blk
  refine ⟨IN (d + 1).toNat fun r w' => Ext w1 w' ∧ OwnL w' w1.heap.size T.t_int out (halveTo n.ends d l r), MN (d + 1).toNat, IN_zero ⟨hE2, hO2⟩, ?_⟩
  rintro _ w3 ⟨r, rfl, hr, hE3, hO3⟩
  intros
  have hH := hC.to hd r
  have hHl := hH.len
  have hol : out.len = n.ends.length := by rw [hO3.1, hHl]
  refine cond_dec (fun hlt => ?_) (fun hge => ?_)
  · have hr' : r < (d + 1).toNat := by omega
    have hdef : halveTo n.ends d l (r + 1) = halveR n.ends d (r : Int) (halveTo n.ends d l r) := rfl
    generalize halveTo n.ends d l r = L at *
    refine call (clone_ok (hO3.rep hH.i64).any (by omega)) ?_
    rintro old w4 ⟨hE4, hOld⟩
    have hRo := hOld.rep hH.i64
    have hobk := hO3.blk
    have hold : old.len = n.ends.length := by rw [hOld.1, hHl]
    rw [hold]
    refine ⟨IN n.ends.length fun v w' => Chg w4 w' (oB out) ∧ OwnL w' w1.heap.size T.t_int out (mapTo (halveAt n.ends d r L) L v), MN n.ends.length, IN_zero ⟨Chg.refl _ _, by rw [mapTo_zero]; exact hO3.ext hE4⟩, ?_⟩
    rintro _ w5 ⟨v, rfl, hv, hC5, hO5⟩
    intros
    have hE5 : Ext w1 w5 := hC5.ext0 (hE3.trans hE4) fun k hk => (hobk k hk).1
    refine cond_dec (fun hlt2 => ?_) (fun hge2 => ?_)
    · have hv' : v < L.length := by omega
      have hve : v < n.ends.length := by omega
      have hR5 := hRo.chg hC5 fun b hb _ hk => by have := (hobk b hk).2; omega
      refine hR5.ixI hv' fun q _ hc => LD_int hc ⟨hS, ?_⟩
      have h0 := hH.nn _ (List.getElem_mem hv')
      have h1 := hH.le _ (List.getElem_mem hv')
      obtain ⟨a1, a2, a3, a4, a5, a6, _, _⟩ := halve_arith hd h0 h1
      have hgd : L.getD v 0 = L[v] := by simp [hv']
      rw [tmod_nn h0, tdiv_nn h0, wrap_of (n := d + 1 + (r : Int)) (by omega) (by omega), wrap_of (n := L[v] / (2 * (d + 1))) (by omega) (by omega)]
      refine cond_ne (fun hne => IN_next (by omega) hve ⟨hC5, ?_⟩) (fun heq => LD_box3 (hb1.ext hE5) ?_)
      · rw [← mapTo_same _ hv' (by unfold halveAt; rw [hgd, if_pos hne])]
        exact hO5
      refine call (near_ok (h.ext hE5) hR5.any hC.good hHl hve) ?_
      rintro nr w6 ⟨hE6, hOn⟩
      have hnI := near_I64 hC.good hH.i64 hHl hve
      have hRn := (hOn.rep hnI).any
      have hnl := near_len hC.good L hve
      rw [hRn.len]
      refine ⟨IN2 (nearOf n.ends L v).length fun i pl w' => Ext w6 w' ∧ OwnL w' w6.heap.size T.t_int pl (placesOf d L[v] ((nearOf n.ends L v).take i)), MN2 (nearOf n.ends L v).length, IN2_zero ⟨Ext.refl _, by simpa [placesOf] using OwnL.nil _ _ _⟩, ?_⟩
      rintro pl _ w7 ⟨i, rfl, hi, hE7, hOp⟩
      intros
      have hpl := places_len d L[v] ((nearOf n.ends L v).take i)
      have hpl' : (placesOf d L[v] ((nearOf n.ends L v).take i)).length ≤ 6 := by rw [List.length_take] at hpl; omega
      have hpI : ∀ y ∈ placesOf d L[v] ((nearOf n.ends L v).take i), I64 y := by
        intro y hy
        obtain ⟨z, hz, rfl⟩ := List.mem_map.1 hy
        have hzl := near_mem hC.good hHl hve z (List.mem_of_mem_take (List.mem_filter.1 hz).1)
        obtain ⟨_, _, _, b4, b5, _⟩ := halve_arith hd (hH.nn z hzl) (hH.le z hzl)
        unfold I64; omega
      refine cond_dec (fun hlt3 => ?_) (fun hge3 => ?_)
      · have hi' : i < (nearOf n.ends L v).length := by omega
        refine (hRn.ext hE7).ixI hi' fun q _ hc => LD_int hc ⟨hS, hS, ?_⟩
        have hml := near_mem hC.good hHl hve _ (List.getElem_mem hi')
        have g0 := hH.nn _ hml
        have g1 := hH.le _ hml
        obtain ⟨b1, b2, b3, b4, b5, b6, _, _⟩ := halve_arith hd g0 g1
        rw [tdiv_nn g0, tmod_nn g0, wrap_of (by omega) (by omega)]
        intro w8 hE8
        replace hE7 := hE7.ext hE8
        replace hOp := hOp.ext hE8
        have hsn : placesOf d L[v] ((nearOf n.ends L v).take (i + 1)) = placesOf d L[v] ((nearOf n.ends L v).take i) ++ if (nearOf n.ends L v)[i] / (2 * (d + 1)) == L[v] / (2 * (d + 1)) then [(nearOf n.ends L v)[i] % (2 * (d + 1))] else [] := by
          rw [List.take_succ_eq_append_getElem hi', places_snoc]
        refine cond_b (fun ht => ⟨hS, ?_⟩) (fun hf => IN2_next (by omega) hi' ⟨hE7, by rw [hsn, hf]; simpa using hOp⟩)
        refine RUN_lit1 (α := Int) slt_int ((nearOf n.ends L v)[i] % (2 * (d + 1))) rfl (by decide) fun r9 w9 hE9 hO9 => ?_
        replace hE7 := hE7.ext hE9
        replace hOp := hOp.ext hE9
        refine RUN_append (α := Int) slt_int hOp hE7.size_le (hO9.rep (by intro z hz; simp at hz; subst hz; show I64 _; unfold I64; omega)).any (by simp only [List.length_singleton]; omega) (by simp only [List.length_singleton, maxLen]; omega) fun r' w10 hO10 hs10 => ?_
        refine IN2_next (by omega) hi' ⟨hs10.ext0 hE7 (fun k hk => (hOp.blk k hk).1), ?_⟩
        rw [hsn, ht]
        exact hO10
      · have : i = (nearOf n.ends L v).length := by omega
        subst this
        rw [List.take_length] at hOp hpI hpl'
        intro w11 hE11 _
        have hmx := mex_le (placesOf d L[v] (nearOf n.ends L v))
        refine ⟨fun _ => True, hS, Chg.refl _ _, ?_⟩
        refine call (leastFree_ok ((hOp.rep hpI).any.ext hE11)) ?_
        rintro mx _ ⟨rfl, rfl⟩
        refine ⟨Chg.refl _ _, Chg.refl _ _, ?_⟩
        have hO11 := ((hO5.ext hE6).ext hE7).ext hE11
        have hml : (mapTo (halveAt n.ends d r L) L v).length = L.length := mapTo_len _ (by omega)
        refine IX_own hO11 (by omega) rfl fun q hq => ?_
        rw [wrap_of (n := L[v] - L[v] % (2 * (d + 1))) (by omega) (by omega), wrap_of (by omega) (by omega)]
        refine ST_own hO11 (by omega) hq _ rfl fun w13 hO13 hs13 => ?_
        refine IN_next (by omega) hve ⟨(hC5.trans (Chg.of_ext (hE6.trans (hE7.trans hE11)))).trans (.of_step hs13 fun k hk => hk), ?_⟩
        rw [← mapTo_set _ hv']
        have : halveAt n.ends d r L v = L[v] - L[v] % (2 * (d + 1)) + ((mex (placesOf d L[v] (nearOf n.ends L v)) : Nat) : Int) := by
          unfold halveAt
          rw [hgd, if_neg (by simpa using heq), a3]
        rw [this]
        exact hO13
    · have : v = n.ends.length := by omega
      subst this
      refine IN_next (by omega) hr' ⟨hE5, ?_⟩
      rw [hdef]
      have := mapTo_all (halveAt n.ends d r L) L
      rw [hHl] at this
      rw [this] at hO5
      unfold halveR
      rw [hHl]
      exact hO5
  · have : r = (d + 1).toNat := by omega
    subst this
    unfold halveOf
    generalize halveTo n.ends d l (d + 1).toNat = L at *
    rw [hol]
    refine ⟨IN n.ends.length fun v w' => Ext w1 w' ∧ OwnL w' w1.heap.size T.t_int out (mapTo (fun u => halfAt d (L.getD u 0)) L v), MN n.ends.length, IN_zero ⟨hE3, by rw [mapTo_zero]; exact hO3⟩, ?_⟩
    rintro _ w14 ⟨v, rfl, hv, hE14, hO14⟩
    intros
    have hml : (mapTo (fun u => halfAt d (L.getD u 0)) L v).length = L.length := mapTo_len _ (by omega)
    refine cond_dec (fun hlt2 => ?_) (fun hge2 => ?_)
    · have hv' : v < L.length := by omega
      have hve : v < n.ends.length := by omega
      have hget : (mapTo (fun u => halfAt d (L.getD u 0)) L v)[v]'(by omega) = L[v] := by
        unfold mapTo
        rw [List.getElem_append_right (by simp)]
        simp
      have hmI : ∀ x ∈ mapTo (fun u => halfAt d (L.getD u 0)) L v, I64 x := mapTo_mem (fun i hi => by
        have := halfAt_ok hd (hH.nn _ (List.getElem_mem hi)) (hH.le _ (List.getElem_mem hi))
        simp [hi]; unfold I64; omega) hH.i64 (by omega)
      refine (hO14.rep hmI).ixI (i := v) (by omega) fun q _ hc => LD_int hc ?_
      rw [hget]
      have h0 := hH.nn _ (List.getElem_mem hv')
      have h1 := hH.le _ (List.getElem_mem hv')
      obtain ⟨a1, a2, a3, a4, a5, a6, a7, a8⟩ := halve_arith hd h0 h1
      intro w15 hE15 _
      refine ⟨fun _ => False, hS, Chg.refl _ _, hS, Chg.refl _ _, Chg.refl _ _, ?_⟩
      have hO15 := hO14.ext hE15
      refine IX_own hO15 (by omega) rfl fun q hq => ?_
      rw [tdiv_nn h0, tmod_nn h0, wrap_of (n := L[v] / (2 * (d + 1))) (by omega) (by omega), wrap_of (n := L[v] / (2 * (d + 1)) * (d + 1)) (by omega) (by omega), wrap_of (by omega) (by omega)]
      refine ST_own hO15 (by omega) hq (halfAt d L[v]) rfl fun w16 hO16 hs16 => ?_
      refine IN_next (by omega) hve ⟨hs16.ext0 (hE14.trans hE15) (fun k hk => (hO15.blk k hk).1), ?_⟩
      rw [← mapTo_set _ hv']
      have : L.getD v 0 = L[v] := by simp [hv']
      rw [this]
      exact hO16
    · have : v = n.ends.length := by omega
      subst this
      refine ⟨hS, fun w17 hE17 => ?_⟩
      have := mapTo_all (fun u => halfAt d (L.getD u 0)) L
      rw [hHl] at this
      rw [this] at hO14
      have e3 : (List.range n.ends.length).map (fun u => halfAt d (L.getD u 0)) = L.map (halfAt d) := by
        apply List.ext_getElem
        · simp [hHl]
        · intro i h1 h2
          have : i < L.length := by simpa using h2
          simp [this]
      rw [e3] at hO14
      refine ⟨hE.trans (hE14.trans hE17), (hO14.ext hE17).low hE.size_le, ?_⟩
      obtain ⟨p1, p2, p3, p4⟩ := pal_arith hd hk
      rw [wrap_of (n := k + 2 * (d + 1)) (by omega) (by omega), wrap_of (n := k + 2 * (d + 1) - 1) (by omega) (by omega), tdiv_nn (by omega), wrap_of (n := (k + 2 * (d + 1) - 1) / (2 * (d + 1))) (by omega) (by omega), Int.mul_comm]
      unfold palOf at p3 p4
      rw [wrap_of (by omega) (by omega)]
      rfl

theorem clHalve_ok {w : World} {a b c s : Sl} {n : Net} {l : List Int} {d : Int} (h : RNet w a b c n) (hl : R w s l) (hC : HalOk n d l) (hd : 0 ≤ d ∧ d ≤ 6) {k : Int} (hk : 0 ≤ k ∧ k ≤ 1000000000000) :
    Calls Tryz.prog F.s_clHalve #[.agg #[a.v, b.v, c.v], s.v, .int .i64 k, .int .i64 d] w (Ret [.at .sl, .at (.int .i64)] fun (r : Sl) (x : Int) w' => Ext w w' ∧ R w' r (halveOf n.ends d l) ∧ x = palOf d k) := by
  refine C_s_clHalve ?_
  unfold V_s_clHalve
  have h40 := hC.good.size
  have hlen := hC.len
  have e1 : IntKind.i64.wrap (d + 1) = d + 1 := wrap_of (by omega) (by omega)
  have e2 : IntKind.i64.wrap (2 * (d + 1)) = 2 * (d + 1) := wrap_of (by omega) (by omega)
  have hS : (2 * (d + 1) : Int) ≠ 0 := by omega
  simp only [e1, e2]
  refine NEW_intro fun p w1 hp hs hE hb1 => ?_
  replace h := h.ext hE
  replace hl := hl.ext hE
  refine ⟨IN2 (d + 1).toNat fun r t w' => Ext w1 w' ∧ R w' t (halveTo n.ends d l r), MN2 (d + 1).toNat, IN2_zero ⟨Ext.refl _, hl⟩, ?_⟩
  rintro t _ w3 ⟨r, rfl, hr, hE3, hR3⟩
  intros
  have hH := hC.to hd r
  have hHl := hH.len
  have hol : t.len = n.ends.length := by rw [hR3.len, hHl]
  rw [hol]
  refine cond_dec (fun hlt => ?_) (fun hge => ?_)
  · have hr' : r < (d + 1).toNat := by omega
    have hdef : halveTo n.ends d l (r + 1) = halveR n.ends d (r : Int) (halveTo n.ends d l r) := rfl
    have hnext := hH.next hd (r := (r : Int)) (by omega)
    generalize halveTo n.ends d l r = L at *
    refine call (l1Own_ok hR3 (by omega)) ?_
    rintro out w4 ⟨hE4, hO4⟩
    refine ⟨IN n.ends.length fun v w' => Ext w3 w' ∧ OwnL w' w3.heap.size T.t_int out (mapTo (halveAt n.ends d r L) L v), MN n.ends.length, IN_zero ⟨hE4, by rw [mapTo_zero]; exact hO4⟩, ?_⟩
    rintro _ w5 ⟨v, rfl, hv, hE5, hO5⟩
    intros
    have hE15 := hE3.trans hE5
    refine cond_dec (fun hlt2 => ?_) (fun hge2 => ?_)
    · have hv' : v < L.length := by omega
      have hve : v < n.ends.length := by omega
      have hR5 := hR3.ext hE5
      refine hR5.ixI hv' fun q _ hc => LD_int hc ⟨hS, ?_⟩
      have h0 := hH.nn _ (List.getElem_mem hv')
      have h1 := hH.le _ (List.getElem_mem hv')
      obtain ⟨a1, a2, a3, a4, a5, a6, _, _⟩ := halve_arith hd h0 h1
      have hgd : L.getD v 0 = L[v] := by simp [hv']
      rw [tmod_nn h0, tdiv_nn h0, wrap_of (n := d + 1 + (r : Int)) (by omega) (by omega), wrap_of (n := L[v] / (2 * (d + 1))) (by omega) (by omega)]
      refine cond_ne (fun hne => IN_next (by omega) hve ⟨hE5, ?_⟩) (fun heq => LD_box3 (hb1.ext hE15) ?_)
      · rw [← mapTo_same _ hv' (by unfold halveAt; rw [hgd, if_pos hne])]
        exact hO5
      refine call (neNear_ok (h.ext hE15) hC.good hve) ?_
      rintro na w50 ⟨hE50, hOa⟩
      refine call (through_ok ((h.ext hE15).ext hE50) (hR5.ext hE50) hC.good hHl hve hOa) ?_
      rintro nr w6 ⟨hE60, hOn⟩
      have hE6 := hE50.trans hE60
      have hnI := near_I64 hC.good hH.i64 hHl hve
      have hRn := (hOn.rep hnI).any
      have hnl := near_len hC.good L hve
      rw [hRn.len]
      refine ⟨IN2 (nearOf n.ends L v).length fun i pl w' => Ext w6 w' ∧ OwnL w' w6.heap.size T.t_int pl (placesOf d L[v] ((nearOf n.ends L v).take i)), MN2 (nearOf n.ends L v).length, IN2_zero ⟨Ext.refl _, by simpa [placesOf] using OwnL.nil _ _ _⟩, ?_⟩
      rintro pl _ w7 ⟨i, rfl, hi, hE7, hOp⟩
      intros
      have hpl := places_len d L[v] ((nearOf n.ends L v).take i)
      have hpl' : (placesOf d L[v] ((nearOf n.ends L v).take i)).length ≤ 6 := by rw [List.length_take] at hpl; omega
      have hpI : ∀ y ∈ placesOf d L[v] ((nearOf n.ends L v).take i), I64 y := by
        intro y hy
        obtain ⟨z, hz, rfl⟩ := List.mem_map.1 hy
        have hzl := near_mem hC.good hHl hve z (List.mem_of_mem_take (List.mem_filter.1 hz).1)
        obtain ⟨_, _, _, b4, b5, _⟩ := halve_arith hd (hH.nn z hzl) (hH.le z hzl)
        unfold I64; omega
      refine cond_dec (fun hlt3 => ?_) (fun hge3 => ?_)
      · have hi' : i < (nearOf n.ends L v).length := by omega
        refine (hRn.ext hE7).ixI hi' fun q _ hc => LD_int hc ⟨hS, hS, ?_⟩
        have hml := near_mem hC.good hHl hve _ (List.getElem_mem hi')
        have g0 := hH.nn _ hml
        have g1 := hH.le _ hml
        obtain ⟨b1, b2, b3, b4, b5, b6, _, _⟩ := halve_arith hd g0 g1
        rw [tdiv_nn g0, tmod_nn g0, wrap_of (by omega) (by omega)]
        intro w8 hE8
        replace hE7 := hE7.ext hE8
        replace hOp := hOp.ext hE8
        have hsn : placesOf d L[v] ((nearOf n.ends L v).take (i + 1)) = placesOf d L[v] ((nearOf n.ends L v).take i) ++ if (nearOf n.ends L v)[i] / (2 * (d + 1)) == L[v] / (2 * (d + 1)) then [(nearOf n.ends L v)[i] % (2 * (d + 1))] else [] := by
          rw [List.take_succ_eq_append_getElem hi', places_snoc]
        refine cond_b (fun ht => ⟨hS, ?_⟩) (fun hf => IN2_next (by omega) hi' ⟨hE7, by rw [hsn, hf]; simpa using hOp⟩)
        refine RUN_lit1 (α := Int) slt_int ((nearOf n.ends L v)[i] % (2 * (d + 1))) rfl (by decide) fun r9 w9 hE9 hO9 => ?_
        replace hE7 := hE7.ext hE9
        replace hOp := hOp.ext hE9
        refine RUN_append (α := Int) slt_int hOp hE7.size_le (hO9.rep (by intro z hz; simp at hz; subst hz; show I64 _; unfold I64; omega)).any (by simp only [List.length_singleton]; omega) (by simp only [List.length_singleton, maxLen]; omega) fun r' w10 hO10 hs10 => ?_
        refine IN2_next (by omega) hi' ⟨hs10.ext0 hE7 (fun k hk => (hOp.blk k hk).1), ?_⟩
        rw [hsn, ht]
        exact hO10
      · have : i = (nearOf n.ends L v).length := by omega
        subst this
        rw [List.take_length] at hOp hpI hpl'
        intro w11 hE11 _
        have hmx := mex_le (placesOf d L[v] (nearOf n.ends L v))
        refine ⟨fun _ => True, hS, Chg.refl _ _, ?_⟩
        refine call (clLeast_ok ((hOp.rep hpI).any.ext hE11)) ?_
        rintro mx _ ⟨rfl, rfl⟩
        refine ⟨Chg.refl _ _, Chg.refl _ _, ?_⟩
        have hE511 := hE6.trans (hE7.trans hE11)
        have hO11 := hO5.ext hE511
        have hml : (mapTo (halveAt n.ends d r L) L v).length = L.length := mapTo_len _ (by omega)
        refine IX_own hO11 (by omega) rfl fun q hq => ?_
        rw [wrap_of (n := L[v] / (2 * (d + 1)) * (2 * (d + 1))) (by omega) (by omega), wrap_of (by omega) (by omega)]
        refine ST_own hO11 (by omega) hq _ rfl fun w13 hO13 hs13 => ?_
        refine IN_next (by omega) hve ⟨hs13.ext0 (hE5.trans hE511) (fun k hk => (hO11.blk k hk).1), ?_⟩
        rw [← mapTo_set _ hv']
        have : halveAt n.ends d r L v = L[v] / (2 * (d + 1)) * (2 * (d + 1)) + ((mex (placesOf d L[v] (nearOf n.ends L v)) : Nat) : Int) := by
          unfold halveAt
          rw [hgd, if_neg (by simpa using heq)]
        rw [this]
        exact hO13
    · have : v = n.ends.length := by omega
      subst this
      rw [show IntKind.i64.wrap ((r : Int) + 1) = ((r + 1 : Nat) : Int) by rw [wrap_of (by omega) (by omega)]; omega]
      refine ⟨⟨r + 1, rfl, by omega, hE15, ?_⟩, by unfold MN2; omega⟩
      rw [hdef]
      have := mapTo_all (halveAt n.ends d r L) L
      rw [hHl] at this
      rw [this] at hO5
      have e4 : halveR n.ends d (r : Int) L = (List.range n.ends.length).map (halveAt n.ends d r L) := by unfold halveR; rw [hHl]
      rw [e4] at hnext ⊢
      exact (hO5.rep hnext.i64).any
  · have : r = (d + 1).toNat := by omega
    subst this
    unfold halveOf
    generalize halveTo n.ends d l (d + 1).toNat = L at *
    have hfI : ∀ x ∈ L, I64 (halfAt d x) := fun x hx => by
      have := halfAt_ok hd (hH.nn x hx) (hH.le x hx)
      unfold I64; omega
    refine ⟨IN2 n.ends.length fun v out w' => Ext w3 w' ∧ OwnL w' w3.heap.size T.t_int out ((L.take v).map (halfAt d)), MN2 n.ends.length, IN2_zero ⟨Ext.refl _, by simpa using OwnL.nil _ _ _⟩, ?_⟩
    rintro out _ w14 ⟨v, rfl, hv, hE14, hO14⟩
    intros
    refine cond_dec (fun hlt2 => ?_) (fun hge2 => ?_)
    · have hv' : v < L.length := by omega
      have hve : v < n.ends.length := by omega
      refine (hR3.ext hE14).ixI hv' fun q _ hc => LD_int hc ?_
      have h0 := hH.nn _ (List.getElem_mem hv')
      have h1 := hH.le _ (List.getElem_mem hv')
      obtain ⟨a1, a2, a3, a4, a5, a6, a7, a8⟩ := halve_arith hd h0 h1
      intro w15 hE15 _
      refine ⟨fun _ => True, hS, Chg.refl _ _, hS, Chg.refl _ _, Chg.refl _ _, ?_⟩
      replace hE14 := hE14.ext hE15
      replace hO14 := hO14.ext hE15
      rw [tdiv_nn h0, tmod_nn h0, wrap_of (n := L[v] / (2 * (d + 1))) (by omega) (by omega), wrap_of (n := L[v] / (2 * (d + 1)) * (d + 1)) (by omega) (by omega), wrap_of (by omega) (by omega)]
      refine RUN_lit1 (α := Int) slt_int (halfAt d L[v]) rfl (by decide) fun r9 w16 hE16 hO16 => ⟨.of_ext hE16, ?_⟩
      have hO14' := hO14.ext hE16
      have hE14' := hE14.trans hE16
      refine RUN_append (α := Int) slt_int hO14' hE14'.size_le (hO16.rep (by intro z hz; simp at hz; subst hz; exact hfI _ (List.getElem_mem hv'))).any (by simp; omega) (by simp [maxLen]; omega) fun r' w17 hO17 hs17 => ⟨(Chg.of_ext hE16).trans (.of_step hs17 fun _ _ => trivial), ?_⟩
      refine IN2_next (by omega) hve ⟨hs17.ext0 hE14' (fun k hk => (hO14'.blk k hk).1), ?_⟩
      rw [map_take_succ hv']
      exact hO17
    · have : v = n.ends.length := by omega
      subst this
      refine ⟨hS, fun w18 hE18 => ?_⟩
      rw [show n.ends.length = L.length from hHl.symm, List.take_length] at hO14
      refine ⟨hE.trans (hE3.trans (hE14.trans hE18)), ((hO14.rep (fun x hx => by obtain ⟨y, hy, rfl⟩ := List.mem_map.1 hx; exact hfI y hy)).any.ext hE18), ?_⟩
      obtain ⟨p1, p2, p3, p4⟩ := pal_arith hd hk
      rw [wrap_of (n := k + 2 * (d + 1)) (by omega) (by omega), wrap_of (n := k + 2 * (d + 1) - 1) (by omega) (by omega), tdiv_nn (by omega), wrap_of (n := (k + 2 * (d + 1) - 1) / (2 * (d + 1))) (by omega) (by omega)]
      unfold palOf at p3 p4
      rw [wrap_of (by omega) (by omega)]
      rfl

theorem PalAsked.hal {n : Net} {l : List Int} {k a : Int} (h : PalAsked n l k a) (hi : ∀ x ∈ l, I64 x) : HalOk n a l :=
  ⟨h.cols hi, fun x hx => (h.proper.2.1 x hx).2⟩

theorem halveOf_I64 {n : Net} {l : List Int} {d : Int} (h : HalOk n d l) (hd : 0 ≤ d ∧ d ≤ 6) : ∀ x ∈ halveOf n.ends d l, I64 x := fun x hx => by
  obtain ⟨y, hy, rfl⟩ := List.mem_map.1 hx
  have hH := h.to hd (d + 1).toNat
  have := halfAt_ok hd (hH.nn y hy) (hH.le y hy)
  unfold I64; omega

theorem halveOf_len {n : Net} {l : List Int} {d : Int} (h : HalOk n d l) (hd : 0 ≤ d ∧ d ≤ 6) : (halveOf n.ends d l).length = n.ends.length := by
  unfold halveOf
  rw [List.length_map, (h.to hd _).len]

end Go.Proofs.YtoeaoinedidbiaaGreat
