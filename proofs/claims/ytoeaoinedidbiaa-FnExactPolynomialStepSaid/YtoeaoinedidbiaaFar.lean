/- The reference's distances from a node. -/
import Derived.Test.YtoeaoinedidbiaaDist
namespace Go.Proofs.Ytoeaoinedidbiaa
open Go.GX Go.RowKit
set_option maxRecDepth 100000

theorem own_sep {α β : Type} [Flat α] [Flat β] {w w' : World} {b1 b2 : Nat} {e e' : TypeId} {s s' : Sl} {l : List α} {l' : List β} (h : OwnL w b1 e s l) (_ : OwnL w b2 e' s' l')
    (hs : ∀ g, s.v.ownBlock = some g → s'.v.ownBlock ≠ some g) (hst : Step w w' s'.v.ownBlock) : OwnL w' b1 e s l :=
  h.keep fun k hk => hst.block k (h.blk k hk).2 (fun he => hs k hk he.symm)

/-- What the search keeps in memory: distances, queue, apart from each other. -/
structure BfsMem (w1 w' : World) (b1 b2 : Nat) (E : Ends) (v : Nat) (sD sW : Sl) (D W : List Int) (k : Nat) : Prop where
  ext : Ext w1 w'
  dist : OwnL w' b1 T.t_int sD D
  queue : OwnL w' b2 T.t_int sW W
  bfs : Bfs E v W D k
  lo1 : w1.heap.size ≤ b1
  lo12 : b1 ≤ b2
  lo2 : b2 ≤ w'.heap.size
  sep : ∀ g, sD.v.ownBlock = some g → g < b2

theorem BfsMem.next {w1 w' w'' : World} {b1 b2 : Nat} {E : Ends} {v : Nat} {sD sW : Sl} {D W : List Int} {k : Nat} (h : BfsMem w1 w' b1 b2 E v sD sW D W k) (hE : Ext w' w'') : BfsMem w1 w'' b1 b2 E v sD sW D W k :=
  { h with ext := h.ext.trans hE, dist := h.dist.ext hE, queue := h.queue.ext hE, lo2 := Nat.le_trans h.lo2 hE.size_le }

theorem ints_ok {n : Nat} {D : List Int} (h : ∀ x ∈ D, -1 ≤ x ∧ x < (n : Int)) (hn : n ≤ 1000000) : ∀ x ∈ D, Flat.ok x := fun x hx => by
  have := h x hx
  show I64 x
  unfold I64
  omega

theorem meFrom_ok {w : World} {a b c : Sl} {n : Net} (h : RNet w a b c n) (hg : Good n) {v : Nat} (hv : v < n.ends.length) :
    Calls Try.prog F.s_meFrom #[.agg #[a.v, b.v, c.v], .int .i64 v] w (Ret [.at .sl] fun (r : Sl) w' => Ext w w' ∧ ∃ D, OwnL w' w.heap.size T.t_int r D ∧ Dists n.ends v D ∧ ∀ x ∈ D, -1 ≤ x ∧ x < n.ends.length) := by
  refine C_s_meFrom ?_
  unfold V_s_meFrom
  refine NEW_intro fun p w1 hp hs hE1 hb1 => LD_bs0 hb1 ?_
  replace h := h.ext hE1
  have hb0 := hE1.size_le
  rw [h.1.len]
  have h40 := hg.size.2
  refine RUN_make (α := Int) slt_int (d := 0) rfl (by omega) (by unfold maxLen; omega) fun sD w2 hE2 hO2 => ?_
  have hsl : sD.len = n.ends.length := by have := hO2.1; simpa using this
  rw [hsl]
  refine ⟨IN n.ends.length fun i w' => Ext w1 w' ∧ OwnL w' w1.heap.size T.t_int sD ((List.replicate n.ends.length (-1 : Int)).take i ++ List.replicate (n.ends.length - i) 0), MN n.ends.length, IN_zero ⟨hE2, by simpa using hO2⟩, ?_⟩
  rintro _ w3 ⟨i, rfl, hi, hE3, hO3⟩
  intros
  have hrl : (List.replicate n.ends.length (-1 : Int)).length = n.ends.length := by simp
  refine cond_dec (fun hlt => ?_) (fun hge => ?_)
  · have hi' : i < n.ends.length := by omega
    have hfl : ((List.replicate n.ends.length (-1 : Int)).take i ++ List.replicate (n.ends.length - i) 0).length = n.ends.length := by simp; omega
    refine IX_own hO3 (by rw [hfl]; exact hi') rfl fun q hq => ?_
    refine ST_own hO3 (by rw [hfl]; exact hi') hq (-1) rfl fun w4 hO4 hs4 => ?_
    refine IN_next (by omega) hi' ⟨hs4.ext0 hE3 (fun k hk => (hO3.blk k hk).1), ?_⟩
    have hf := fill_step (l := List.replicate n.ends.length (-1 : Int)) (i := i) (by simpa using hi') 0
    rw [List.getElem_replicate, hrl] at hf
    rw [← hf]
    exact hO4
  have hin : i = n.ends.length := by omega
  subst hin
  have hO3' : OwnL w3 w1.heap.size T.t_int sD (List.replicate n.ends.length (-1 : Int)) := by simpa using hO3
  refine IX_own hO3' (by simpa using hv) rfl fun q hq => ?_
  refine ST_own hO3' (by simpa using hv) hq 0 rfl fun w5 hO5 hs5 => ?_
  have hE5 := hs5.ext0 hE3 (fun k hk => (hO3'.blk k hk).1)
  refine RUN_lit1 (α := Int) slt_int (v : Int) rfl (by decide) fun sW w6 hE6 hO6 => ?_
  refine ⟨IN2 n.ends.length fun k out w' => ∃ D W, BfsMem w1 w' w1.heap.size w5.heap.size n.ends v sD out D W k, MN2 n.ends.length, IN2_zero ⟨_, _, hE5.trans hE6, hO5.ext hE6, hO6, bfs_start hv, Nat.le_refl _, hE5.size_le, hE6.size_le, fun g hg => (hO5.blk g hg).2⟩, ?_⟩
  rintro out _ w7 ⟨k, rfl, hk, D, W, hM⟩
  intros
  have hB := hM.bfs
  have hWl : out.len = W.length := hM.queue.1
  have hsz := hB.size
  rw [hWl]
  refine cond_dec (fun hlt w8 hE8 _ => ?_) (fun hge => ?_)
  · have hk' : k < W.length := by omega
    obtain ⟨cn, hcw, hcg, hcl, hc0, hcd⟩ := hB.node hk'
    replace hM := hM.next hE8
    have hE18 := hM.ext
    refine LD_box3 (hb1.ext hE18) ?_
    have hokW : ∀ x ∈ W, Flat.ok x := fun x hx => by
      obtain ⟨u, rfl, hu⟩ := hB.nodes x hx
      show I64 _
      unfold I64
      omega
    refine (hM.queue.rep hokW).any.ixI hk' fun q _ hc => LD_int hc ?_
    rw [hcw]
    refine call (neNear_ok (h.ext hE18) hg hcl) ?_
    rintro sN w9 ⟨hE9, hN9⟩
    refine ⟨hE9, hE9, ?_⟩
    have hb3 : w5.heap.size ≤ w8.heap.size := hM.lo2
    have hq8 := hM.queue.blk
    replace hM := hM.next hE9
    have hNl : sN.len = (adjOf n.ends cn).length := hN9.1
    rw [hNl]
    have hal := adj_len hg hcl
    have hd6 := hg.deg hcl
    refine ⟨IN2 (adjOf n.ends cn).length fun j out' w' => ∃ D' W', BfsMem w1 w' w1.heap.size w5.heap.size n.ends v sD out' D' W' k ∧ k < W'.length ∧ W'.getD k 0 = cn ∧ OwnL w' w8.heap.size T.t_int sN (adjOf n.ends cn) ∧ (∀ g, out'.v.ownBlock = some g → sN.v.ownBlock ≠ some g) ∧
      ∀ i < j, ∀ u : Nat, (adjOf n.ends cn)[i]? = some (u : Int) → 0 ≤ D'.getD u (-1) ∧ D'.getD u (-1) ≤ dv D' W' k + 1, MN2 (adjOf n.ends cn).length,
      IN2_zero ⟨D, W, hM, hk', hcg, hN9, fun g hg1 hg2 => ?_, fun i hi => absurd hi (by omega)⟩, ?_⟩
    · have h1 := (hq8 g hg1).2
      have h2 := (hN9.blk g hg2).1
      omega
    rintro out2 _ w10 ⟨j, rfl, hj, D', W', hM', hkW, hcW, hN, hsN, hdone⟩
    intros
    have hB' := hM'.bfs
    have hsz' := hB'.size
    refine cond_dec (fun hlt2 => ?_) (fun hge2 => ?_)
    · have hj' : j < (adjOf n.ends cn).length := by omega
      refine (hN.rep (adj_I64 hg hcl)).any.ixI hj' fun q _ hc => LD_int hc ?_
      obtain ⟨y, hy, hyl⟩ := adj_ok hg hcl _ (List.getElem_mem hj')
      have hyj : (adjOf n.ends cn)[j]? = some (y : Int) := by simp [hj', hy]
      have hya : (y : Int) ∈ adjOf n.ends (W'.getD k 0).toNat := by
        rw [hcW]; simp only [Int.toNat_natCast]; rw [← hy]; exact List.getElem_mem hj'
      have hel := hB'.elems
      have hokD : ∀ x ∈ D', Flat.ok x := ints_ok hel (by omega)
      have hRD := (hM'.dist.rep hokD).any
      have hyD : y < D'.length := by rw [hB'.len]; exact hyl
      have hcD : cn < D'.length := by rw [hB'.len]; exact hcl
      have hgy : D'.getD y (-1) = D'[y] := by simp [hyD]
      have hgc : D'.getD cn (-1) = D'[cn] := by simp [hcD]
      have hdk : dv D' W' k = D'[cn] := by unfold dv; rw [hcW]; simp [hcD]
      rw [hy]
      refine hRD.ixI hyD fun q _ hc => LD_int hc ?_
      refine cond_dec (fun hneg => ?_) (fun hpos => ?_)
      · have hokW : ∀ x ∈ W', Flat.ok x := fun x hx => by
          obtain ⟨u, rfl, hu⟩ := hB'.nodes x hx
          show I64 _
          unfold I64
          omega
        have hWk : W'[k] = (cn : Int) := by have := hcW; simpa [hkW] using this
        refine (hM'.queue.rep hokW).any.ixI hkW fun q _ hc => LD_int hc ?_
        rw [hWk]
        refine hRD.ixI hcD fun q _ hc => LD_int hc ?_
        have hcs := hel D'[cn] (List.getElem_mem hcD)
        rw [wrap_of (by omega) (by omega)]
        refine IX_own hM'.dist hyD rfl fun q hq => ?_
        refine ST_own hM'.dist hyD hq (D'[cn] + 1) rfl fun w11 hO11 hs11 => ?_
        have hE11 := hs11.ext0 hM'.ext (fun g hg => Nat.le_trans hM'.lo1 (hM'.dist.blk g hg).1)
        have hQ11 : OwnL w11 w5.heap.size T.t_int out2 W' := own_sep hM'.queue hM'.dist (fun g hg1 hg2 => by
          have h1 := (hM'.queue.blk g hg1).1
          have h2 := hM'.sep g hg2
          omega) hs11
        have hN11 : OwnL w11 w8.heap.size T.t_int sN (adjOf n.ends cn) := own_sep hN hM'.dist (fun g hg1 hg2 => by
          have h1 := (hN.blk g hg1).1
          have h2 := hM'.sep g hg2
          omega) hs11
        have hz11 : w5.heap.size ≤ w11.heap.size := Nat.le_trans hM'.lo2 hs11.size
        refine RUN_lit1 (α := Int) slt_int (y : Int) rfl (by decide) fun sy w12 hE12 hOy => ?_
        replace hE11 := hE11.ext hE12
        replace hQ11 := hQ11.ext hE12
        replace hN11 := hN11.ext hE12
        replace hO11 := hO11.ext hE12
        refine RUN_appendF (α := Int) slt_int hQ11 (Nat.le_trans hz11 hE12.size_le) (hOy.rep (by intro z hz; simp at hz; subst hz; show I64 _; unfold I64; omega)).any (by simp; omega) (by simp [maxLen]; omega) fun out3 w13 hQ13 hs13 hnw => ?_
        have hneg' : D'.getD y (-1) < 0 := by rw [hgy]; exact hneg
        have hBa := hB'.add hkW hyl hya hneg'
        rw [hdk] at hBa
        have hdka : dv (D'.set y (D'[cn] + 1)) (W' ++ [(y : Int)]) k = dv D' W' k := hB'.add_dv hyl _ hneg' hkW
        refine IN2_next (by omega) hj' ⟨_, _, ⟨hs13.ext0 hE11 (fun g hg => ?_), ?_, hQ13, hBa, hM'.lo1, hM'.lo12, Nat.le_trans hz11 (Nat.le_trans hE12.size_le hs13.size), hM'.sep⟩, by simp; omega, ?_, ?_, ?_, ?_⟩
        · exact Nat.le_trans (Nat.le_trans hM'.lo1 hM'.lo12) (hQ11.blk g hg).1
        · exact own_sep hO11 hQ11 (fun g hg1 hg2 => by
            have h1 := (hQ11.blk g hg2).1
            have h2 := hM'.sep g hg1
            omega) hs13
        · rw [← hcW]; simp [List.getElem?_append_left hkW]
        · exact own_sep hN11 hQ11 (fun g hg1 hg2 => hsN g hg2 hg1) hs13
        · intro g hg1 hg2
          rcases hnw with h1 | h1
          · exact hsN g (by rw [← h1]; exact hg1) hg2
          · have h2 := h1 g hg1
            have h3 := (hN11.blk g hg2).2
            omega
        · intro i hi u hu
          rw [hdka, getD_set hyD]
          by_cases he : u = y
          · rw [if_pos he, hdk]
            have : 0 ≤ dv D' W' k := by
              obtain ⟨_, _, _, _, h0, h1⟩ := hB'.node hkW
              omega
            omega
          · rw [if_neg he]
            rcases Nat.lt_or_eq_of_le (Nat.le_of_lt_succ hi) with h5 | h5
            · exact hdone i h5 u hu
            · subst h5
              rw [hyj] at hu
              simp at hu
              omega
      · refine IN2_next (by omega) hj' ⟨D', W', hM', hkW, hcW, hN, hsN, fun i hi u hu => ?_⟩
        rcases Nat.lt_or_eq_of_le (Nat.le_of_lt_succ hi) with h5 | h5
        · exact hdone i h5 u hu
        · subst h5
          rw [hyj] at hu
          simp at hu
          obtain rfl : y = u := by omega
          have h0 : 0 ≤ D'.getD y (-1) := by rw [hgy]; omega
          exact ⟨h0, hB'.seen hkW hyl h0⟩
    · have hjj : j = (adjOf n.ends cn).length := by omega
      subst hjj
      refine IN2_next (by omega) (by omega) ⟨D', W', { hM' with bfs := hB'.next hkW fun u hu => ?_ }⟩
      rw [hcW] at hu
      simp only [Int.toNat_natCast] at hu
      obtain ⟨i, hi, he⟩ := List.mem_iff_getElem.1 hu
      exact hdone i hi u (by simp [hi, he])
  · have : k = W.length := by have := hB.le; omega
    subst this
    refine ⟨hE1.trans hM.ext, D, hM.dist.low hb0, hB.end, fun x hx => ?_⟩
    have := hB.elems x hx
    omega

end Go.Proofs.Ytoeaoinedidbiaa
