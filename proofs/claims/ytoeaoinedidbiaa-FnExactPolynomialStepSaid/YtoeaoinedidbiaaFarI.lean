/- The program's distances from a node. -/
import Derived.Test.YtoeaoinedidbiaaFar
import Derived.Test.YtoeaoinedidbiaaQueue
import Derived.Test.YtoeaoinedidbiaaLib
import Derived.Test.YtoeaoinedidbiaaMat
namespace Go.Proofs.Ytoeaoinedidbiaa
open Go.GX Go.RowKit
set_option maxRecDepth 100000

theorem least_of {p : Nat → Prop} : ∀ n, p n → ∃ m, p m ∧ ∀ k, p k → m ≤ k := by
  intro n
  induction n using Nat.strongRecOn with
  | ind n ih =>
    intro hn
    by_cases h : ∃ k, k < n ∧ p k
    · obtain ⟨k, hk, hp⟩ := h
      exact ih k hk hp
    · refine ⟨n, hn, fun k hk => ?_⟩
      by_cases hlt : k < n
      · exact absurd ⟨k, hlt, hk⟩ h
      · omega

/-- A measure of what a loop keeps besides its variables. -/
theorem ghost {σ α : Type} (J : σ → α → World → Prop) (t : σ → Nat) : ∃ m : α → World → Nat, (∀ x w, (∃ s, J s x w) → ∃ s, J s x w ∧ t s = m x w) ∧ ∀ s x w, J s x w → m x w ≤ t s := by
  have key : ∀ x w, ∃ m : Nat, ((∃ s, J s x w) → ∃ s, J s x w ∧ t s = m) ∧ ∀ s, J s x w → m ≤ t s := by
    intro x w
    by_cases h : ∃ s, J s x w
    · obtain ⟨s, hs⟩ := h
      obtain ⟨m, ⟨s', h1, h2⟩, h3⟩ := least_of (p := fun n => ∃ s, J s x w ∧ t s = n) (t s) ⟨s, hs, rfl⟩
      exact ⟨m, fun _ => ⟨s', h1, h2⟩, fun s hs => h3 _ ⟨s, hs, rfl⟩⟩
    · exact ⟨0, fun h' => absurd h' h, fun s hs => absurd ⟨s, hs⟩ h⟩
  refine ⟨fun x w => Classical.choose (key x w), fun x w h => (Classical.choose_spec (key x w)).1 h, fun s x w h => (Classical.choose_spec (key x w)).2 s h⟩

/-- What the search keeps in memory: distances, queue, apart from each other. -/
structure BfsQ (w1 w' : World) (b1 b2 : Nat) (E : Ends) (v : Nat) (sD sQ : Sl) (D W : List Int) (k j : Nat) : Prop where
  ext : Ext w1 w'
  dist : OwnL w' b1 T.t_int sD D
  queue : QL w' b2 T.t_int sQ (W.drop j)
  bfs : Bfs E v W D k
  lo1 : w1.heap.size ≤ b1
  lo12 : b1 ≤ b2
  lo2 : b2 ≤ w'.heap.size
  sep : ∀ g, sD.v.ownBlock = some g → g < b2

theorem BfsQ.next {w1 w' w'' : World} {b1 b2 : Nat} {E : Ends} {v : Nat} {sD sQ : Sl} {D W : List Int} {k j : Nat} (h : BfsQ w1 w' b1 b2 E v sD sQ D W k j) (hE : Ext w' w'') : BfsQ w1 w'' b1 b2 E v sD sQ D W k j :=
  { h with ext := h.ext.trans hE, dist := h.dist.ext hE, queue := h.queue.ext hE, lo2 := Nat.le_trans h.lo2 hE.size_le }

def BfsS (w1 w5 : World) (E : Ends) (v : Nat) (sD : Sl) (s : List Int × List Int × Nat) (q : Sl) (w' : World) : Prop := BfsQ w1 w' w1.heap.size w5.heap.size E v sD q s.1 s.2.1 s.2.2 s.2.2

theorem distancesFrom_ok {w : World} {a b c : Sl} {n : Net} (h : RNet w a b c n) (hg : Good n) {v : Nat} (hv : v < n.ends.length) :
    Calls Try.prog F.i_distancesFrom #[.agg #[a.v, b.v, c.v], .int .i64 v] w (Ret [.at .sl] fun (r : Sl) w' => Ext w w' ∧ ∃ D, OwnL w' w.heap.size T.t_int r D ∧ Dists n.ends v D ∧ ∀ x ∈ D, -1 ≤ x ∧ x < n.ends.length) := by
  refine C_i_distancesFrom ?_
  unfold V_i_distancesFrom
  refine NEW_intro fun p w1 hp hs hE1 hb1 => ?_
  have hb0 := hE1.size_le
  have h40 := hg.size.2
  refine RUN_lit1 (α := Int) slt_int (-1) rfl (by decide) fun r0 w2 hE2 hO2 => ?_
  replace h := h.ext hE1
  refine LD_bs0 (hb1.ext hE2) ?_
  rw [h.1.len]
  refine call (repeat_ok (hO2.rep (by intro x hx; simp at hx; subst hx; exact ⟨by decide, by decide⟩)).any ⟨by decide, by decide⟩ (by omega)) ?_
  rintro sD w3 ⟨hE3, hO3⟩
  have hE13 := hE2.trans hE3
  replace hO3 := hO3.low hE2.size_le
  refine IX_own hO3 (by simpa using hv) rfl fun q hq => ?_
  refine ST_own hO3 (by simpa using hv) hq 0 rfl fun w5 hO5 hs5 => ?_
  have hE5 := hs5.ext0 hE13 (fun k hk => (hO3.blk k hk).1)
  refine RUN_lit1 (α := Int) slt_int (v : Int) rfl (by decide) fun sW w6 hE6 hO6 => ?_
  have hst := bfs_start hv
  obtain ⟨m4, hm1, hm2⟩ := ghost (BfsS w1 w5 n.ends v sD) (fun s => n.ends.length - s.2.2)
  have hfst : BfsS w1 w5 n.ends v sD ((List.replicate n.ends.length (-1 : Int)).set v 0, [(v : Int)], 0) sW w6 := ⟨hE5.trans hE6, hO5.ext hE6, QL.of_own hO6 (by simp), hst, Nat.le_refl _, hE5.size_le, hE6.size_le, fun g hg => (hO5.blk g hg).2⟩
  refine ⟨fun q w' => ∃ s, BfsS w1 w5 n.ends v sD s q w', m4, ⟨_, hfst⟩, ?_⟩
  intro queue w7 hI7
  obtain ⟨⟨D, W, k⟩, hM, hmt⟩ := hm1 queue w7 hI7
  unfold BfsS at hM
  simp only at hM hmt
  intros
  have hB := hM.bfs
  have hQl : queue.len = (W.drop k).length := hM.queue.1
  have hsz := hB.size
  rw [hQl, List.length_drop]
  have hkW0 := hB.le
  refine cond_dec (fun hlt => ?_) (fun hge => ?_)
  rotate_left
  · have : k = W.length := by omega
    subst this
    refine ⟨hE1.trans hM.ext, D, hM.dist.low hb0, hB.end, fun x hx => ?_⟩
    have := hB.elems x hx
    omega
  have hk' : k < W.length := by omega
  obtain ⟨cn, hcw, hcg, hcl, hc0, hcd⟩ := hB.node hk'
  have hokW : ∀ x ∈ W, I64 x := fun x hx => by
    obtain ⟨u, rfl, hu⟩ := hB.nodes x hx
    unfold I64
    omega
  have hdk : W.drop k = W[k] :: W.drop (k + 1) := (List.drop_eq_getElem_cons hk')
  have hQ := hM.queue
  rw [hdk] at hQ
  have hQR := (hQ.rep (fun x hx => by rw [← hdk] at hx; exact hokW x (List.mem_of_mem_drop hx))).any
  refine hQR.ixI (i := 0) (by rw [List.length_cons]; omega) fun q _ hc => LD_int hc ?_
  simp only [List.getElem_cons_zero]
  rw [hcw]
  refine hQ.tail rfl fun q' hQ' hob => LD_bs0 (hb1.ext hM.ext) ?_
  refine h.1.ixL0 hM.ext hcl fun q sN hRN hc => LD_sl hc ?_
  rw [hRN.len]
  have hd6 := hg.deg hcl
  have hadj : adjOf n.ends cn = (n.ends[cn]).map (·.1) := by unfold adjOf; rw [rowOf_get hcl]
  have hM7 : BfsQ w1 w7 w1.heap.size w5.heap.size n.ends v sD q' D W k (k + 1) := { hM with queue := hQ' }
  refine ⟨IN2 n.ends[cn].length fun j out' w' => Ext w1 w' ∧ ∃ D' W', BfsQ w1 w' w1.heap.size w5.heap.size n.ends v sD out' D' W' k (k + 1) ∧ k < W'.length ∧ W'.getD k 0 = cn ∧
      ∀ i < j, ∀ u : Nat, (adjOf n.ends cn)[i]? = some (u : Int) → 0 ≤ D'.getD u (-1) ∧ D'.getD u (-1) ≤ dv D' W' k + 1, MN2 n.ends[cn].length,
      IN2_zero ⟨hM.ext, D, W, hM7, hk', hcg, fun i hi => absurd hi (by omega)⟩, ?_⟩
  rintro out2 _ w10 ⟨j, rfl, hj, hE10, D', W', hM', hkW, hcW, hdone⟩
  intros
  have hB' := hM'.bfs
  have hsz' := hB'.size
  refine cond_dec (fun hlt2 => ?_) (fun hge2 => ?_)
  · have hj' : j < n.ends[cn].length := by omega
    have hel := hB'.elems
    have hokD : ∀ x ∈ D', Flat.ok x := ints_ok hel (by omega)
    refine (hRN.ext hE10).ixE hj' fun q _ _ hc0 hc1 => LD_int2 hc0 hc1 ?_
    refine NEW_ST (one2 _ _) rfl fun p9 w9 hp9 hE9 hb9 => ?_
    obtain ⟨y, z, hyz, hyl, _⟩ := hg.far hcl hj'
    have hyj : (adjOf n.ends cn)[j]? = some (y : Int) := by rw [hadj]; simp [hj', hyz]
    have hya : (y : Int) ∈ adjOf n.ends (W'.getD k 0).toNat := by
      rw [hcW]; simp only [Int.toNat_natCast]; exact List.mem_of_getElem? hyj
    refine LD_bi0 hb9 ?_
    rw [hyz]
    have hM9 := hM'.next hE9
    have hRD := (hM9.dist.rep hokD).any
    have hyD : y < D'.length := by rw [hB'.len]; exact hyl
    have hcD : cn < D'.length := by rw [hB'.len]; exact hcl
    have hgy : D'.getD y (-1) = D'[y] := by simp [hyD]
    have hgc : D'.getD cn (-1) = D'[cn] := by simp [hcD]
    have hdk' : dv D' W' k = D'[cn] := by unfold dv; rw [hcW]; simp [hcD]
    refine hRD.ixI hyD fun q _ hc => LD_int hc ?_
    refine cond_dec (fun hneg => ?_) (fun hpos => ?_)
    · intro w11 hE11 _
      refine ⟨fun _ => False, not_false, ?_⟩
      have hM11 := hM9.next hE11
      have hb11 := hb9.ext hE11
      refine LD_bi0 hb11 ⟨Chg.refl _ _, ?_⟩
      rw [hyz]
      have hRD' := (hM11.dist.rep hokD).any
      refine hRD'.ixI hcD fun q _ hc => ⟨Chg.refl _ _, LD_int hc ⟨Chg.refl _ _, Chg.refl _ _, ?_⟩⟩
      have hcs := hel D'[cn] (List.getElem_mem hcD)
      rw [wrap_of (by omega) (by omega)]
      refine IX_own hM11.dist hyD rfl fun q hq => ?_
      refine ST_own hM11.dist hyD hq (D'[cn] + 1) rfl fun w12 hO12 hs12 => ?_
      have hE12 := hs12.ext0 hM11.ext (fun g hg => Nat.le_trans hM11.lo1 (hM11.dist.blk g hg).1)
      have hQ12 : QL w12 w5.heap.size T.t_int out2 (W'.drop (k + 1)) := hM11.queue.keep fun g hg => hs12.block g (hM11.queue.blk g hg).2 (fun he => by
        have h1 := (hM11.queue.blk g hg).1
        have h2 := hM11.sep g he.symm
        omega)
      have hz12 : w5.heap.size ≤ w12.heap.size := Nat.le_trans hM11.lo2 hs12.size
      have hlt9 : p9.block < w11.heap.size := hb11.lt
      have hp9' : w5.heap.size ≤ p9.block := by rw [hp9]; exact hM'.lo2
      have hb12 := hb11.stepT hM11.dist (by decide) hs12
      refine LD_bi0 hb12 ?_
      rw [hyz]
      refine RUN_lit1 (α := Int) slt_int (y : Int) rfl (by decide) fun sy w13 hE13 hOy => ?_
      replace hE12 := hE12.ext hE13
      replace hQ12 := hQ12.ext hE13
      replace hO12 := hO12.ext hE13
      refine RUN_appendQ slt_int hQ12 (Nat.le_trans hz12 hE13.size_le) (hOy.rep (by intro z hz; simp at hz; subst hz; show I64 _; unfold I64; omega)).any (by simp) (by simp; omega) (by simp [maxLen]; omega) fun out3 w14 hQ14 hs14 hnw => ?_
      have hneg' : D'.getD y (-1) < 0 := by rw [hgy]; exact hneg
      have hBa := hB'.add hkW hyl hya hneg'
      rw [hdk'] at hBa
      have hdka : dv (D'.set y (D'[cn] + 1)) (W' ++ [(y : Int)]) k = dv D' W' k := hB'.add_dv hyl _ hneg' hkW
      have hdr : (W' ++ [(y : Int)]).drop (k + 1) = W'.drop (k + 1) ++ [(y : Int)] := List.drop_append_of_le_length (by omega)
      have hE14 := hs14.ext0 hE12 (fun g hg => Nat.le_trans (Nat.le_trans hM'.lo1 hM'.lo12) (hQ12.blk g hg).1)
      refine IN2_next (by omega) hj' ⟨hE14, _, _, ⟨hE14, ?_, by rw [hdr]; exact hQ14, hBa, hM'.lo1, hM'.lo12, Nat.le_trans hz12 (Nat.le_trans hE13.size_le hs14.size), hM'.sep⟩, by simp; omega, ?_, ?_⟩
      · exact hO12.keep fun g hg => hs14.block g (hO12.blk g hg).2 (fun he => by
          have h1 := (hQ12.blk g he.symm).1
          have h2 := hM'.sep g hg
          omega)
      · rw [← hcW]; simp [List.getElem?_append_left hkW]
      · intro i hi u hu
        rw [hdka, getD_set hyD]
        by_cases he : u = y
        · rw [if_pos he, hdk']
          have : 0 ≤ dv D' W' k := by
            obtain ⟨_, _, _, _, h0, h1⟩ := hB'.node hkW
            omega
          omega
        · rw [if_neg he]
          rcases Nat.lt_or_eq_of_le (Nat.le_of_lt_succ hi) with h5 | h5
          · exact hdone i h5 u hu
          · subst h5
            rw [hyj] at hu
            simp at hu
            omega
    · refine IN2_next (by omega) hj' ⟨hE10.trans hE9, D', W', hM9, hkW, hcW, fun i hi u hu => ?_⟩
      rcases Nat.lt_or_eq_of_le (Nat.le_of_lt_succ hi) with h5 | h5
      · exact hdone i h5 u hu
      · subst h5
        rw [hyj] at hu
        simp at hu
        obtain rfl : y = u := by omega
        have h0 : 0 ≤ D'.getD y (-1) := by rw [hgy]; omega
        exact ⟨h0, hB'.seen hkW hyl h0⟩
  · have hjj : j = n.ends[cn].length := by omega
    subst hjj
    have hnew : BfsQ w1 w10 w1.heap.size w5.heap.size n.ends v sD out2 D' W' (k + 1) (k + 1) := { hM' with bfs := hB'.next hkW fun u hu => ?_ }
    · refine ⟨⟨(D', W', k + 1), hnew⟩, ?_⟩
      have h1 := hm2 (D', W', k + 1) out2 w10 hnew
      simp only at h1
      omega
    · rw [hcW] at hu
      simp only [Int.toNat_natCast] at hu
      obtain ⟨i, hi, he⟩ := List.mem_iff_getElem.1 hu
      exact hdone i (by rw [hadj, List.length_map] at hi; exact hi) u (by simp [hi, he])

end Go.Proofs.Ytoeaoinedidbiaa
