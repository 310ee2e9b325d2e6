/- ProposalMatching, both sides. -/
import Derived.Test.YtcilbmkieclelaaPropose
namespace Go.Proofs.Ytcilbmkieclelaa
open Go.GX Go.RowKit
set_option maxRecDepth 100000

theorem proposalMatching1_ok {n : Net} (hg : Good n) {l : List Int} (hlen : l.length = n.ends.length) {w : World} {s : Sl} {p : Addr} {t : TypeId} (hl : R w s l) (hb : Box w p t [s.v]) :
    AnswersG argsQ w (.func (.func F.i_ProposalMatching_1) #[] #[.pointer (some p)]) (edgesOf n.ends) (fun q => l.getD q.1.toNat 0 == l.getD q.2.2.1.toNat 0) := by
  intro q hq w1 hE1
  replace hl := hl.ext hE1
  replace hb := hb.ext hE1
  obtain ⟨v, i, x, y, rfl, _, _, hv, hx, _⟩ := edge_at hg hq
  have hv' : v < l.length := by omega
  have hx' : x < l.length := by omega
  refine CALLV_mk (by kernel_rfl) (C_i_ProposalMatching_1 ?_)
  unfold V_i_ProposalMatching_1
  refine NEW_intro fun p1 w2 hp1 hs2 hE2 hb2 => ?_
  replace hl := hl.ext hE2
  replace hb := hb.ext hE2
  refine LD_bs hb (LD_bi0 hb2 ?_)
  refine hl.ixI hv' fun q _ hc => LD_int hc (LD_bs hb (LD_bi2 hb2 ?_))
  refine hl.ixI hx' fun q _ hc => LD_int hc ?_
  intro w3 hE3
  refine ⟨?_, hE2.trans hE3⟩
  simp [hv', hx']

theorem mtSides_ok {w : World} {a b c s : Sl} {n : Net} {l : List Int} (h : RNet w a b c n) (hl : R w s l) (hg : Good n) :
    Calls Try.prog F.s_mtSides #[.agg #[a.v, b.v, c.v], s.v] w (Ret [.at .bool] fun (x : Bool) w' => (x = true ↔ Bip n l) ∧ Ext w w') := by
  refine C_s_mtSides ?_
  unfold V_s_mtSides
  refine NEW_intro fun p w1 hp hs hE hb1 => LD_bs0 hb1 ?_
  replace h := h.ext hE
  replace hl := hl.ext hE
  rw [h.1.len, hl.len]
  have hno : ∀ {w' : World}, Ext w w' → ¬ Bip n l → (false = true ↔ Bip n l) ∧ Ext w w' := fun h1 h2 => ⟨by simp [h2], h1⟩
  refine cond_ne (fun hne => hno hE fun hB => hne (by have := hB.len; omega)) (fun heq => ?_)
  have hlen : l.length = n.ends.length := by omega
  refine call (l1All_ok hl _ _) ?_
  rintro x _ ⟨hx, rfl⟩
  refine cond_not (fun hf => hno hE fun hB => by rw [hx.2 hB.all] at hf; cases hf) (fun ht => ?_)
  unfold V_s_mtSides_k1
  refine LD_box3 hb1 ?_
  refine call (neEdges_ok h hg) ?_
  rintro es w4 ⟨hE4, hOe⟩
  have hRe := hOe.rep (four_ok hg)
  replace hl := hl.ext hE4
  replace hE := hE.ext hE4
  rw [hRe.len, List.length_map]
  have hle := hRe.le
  rw [List.length_map] at hle
  refine ⟨IN (edgesOf n.ends).length fun i w' => Ext w4 w' ∧ ∀ q ∈ (edgesOf n.ends).take i, l.getD q.1.toNat 0 ≠ l.getD q.2.2.1.toNat 0, MN (edgesOf n.ends).length, IN_zero ⟨Ext.refl _, by simp⟩, ?_⟩
  rintro _ w5 ⟨i, rfl, hi, hE5, ha⟩
  intros
  refine cond_dec (fun hlt => ?_) (fun hge => ⟨?_, hE.trans hE5⟩)
  · have hi' : i < (edgesOf n.ends).length := by omega
    have hq := List.getElem_mem hi'
    obtain ⟨v, j, x, y, hqe, _, _, hv, hxl, _, _⟩ := edge_at hg hq
    have hv' : v < l.length := by omega
    have hx' : x < l.length := by omega
    refine (hRe.ext hE5).ixL (i := i) (by simpa using hi') fun q s1 hR1 hc => LD_sl hc ?_
    rw [List.getElem_map, hqe] at hR1
    refine hR1.ixI (i := 0) (by simp [four]) fun q _ hc => LD_int hc ?_
    simp only [four, List.getElem_cons_zero]
    refine (hl.ext hE5).ixI hv' fun q _ hc => LD_int hc ?_
    refine hR1.ixI (i := 2) (by simp [four]) fun q _ hc => LD_int hc ?_
    simp only [four, List.getElem_cons_succ, List.getElem_cons_zero]
    refine (hl.ext hE5).ixI hx' fun q _ hc => LD_int hc ?_
    intro w6 hE6
    refine cond_eq (fun he => hno (hE.trans (hE5.trans hE6)) fun hB => ?_) (fun hne => IN_next hle hi' ⟨hE5.trans hE6, fun q hm => ?_⟩)
    · exact hB.apart ((clash_iff hg l).2 ⟨_, hq, by rw [hqe]; simp [hv', hx', he]⟩)
    · rw [List.take_succ_eq_append_getElem hi'] at hm
      rcases List.mem_append.1 hm with h1 | h1
      · exact ha q h1
      · rw [List.mem_singleton.1 h1, hqe]
        simpa [hv', hx'] using hne
  · have : i = (edgesOf n.ends).length := by omega
    subst this
    rw [List.take_length] at ha
    simp only [true_iff]
    refine ⟨hg, hlen, hx.1 ht, fun hc => ?_⟩
    obtain ⟨q, hq, he⟩ := (clash_iff hg l).1 hc
    exact ha q hq he

theorem propTo_I64 {n : Net} (hg : Good n) (sides : List Int) : ∀ x ∈ propTo n.ends sides (roundsTo n.ends sides n.ends.length).toNat, I64 x :=
  (propTo_vals hg _ (by have := rounds_le hg sides n.ends.length (Nat.le_refl _); omega)).I64

theorem ProposalMatching_ok {w : World} {a b c s : Sl} {n : Net} {l : List Int} (h : RNet w a b c n) (hl : R w s l) (hn : Small n) :
    Calls Try.prog F.i_ProposalMatching #[.agg #[a.v, b.v, c.v], s.v] w (Ret [.at .sl, .at (.int .i64), .at .bool] fun (r : Sl) (x : Int) (y : Bool) w' => Ext w w' ∧ ∃ m, OutL w.heap.size w' r m ∧ AnsG (Bip n l) (propTo n.ends l (roundsTo n.ends l n.ends.length).toNat, roundsTo n.ends l n.ends.length) ([], 0) (m, x) y) := by
  refine C_i_ProposalMatching ?_
  unfold V_i_ProposalMatching
  refine NEW_intro fun p w1 hp hs hE hb1 => ?_
  replace h := h.ext hE
  replace hl := hl.ext hE
  refine NEW_intro fun p2 w2 hp2 hs2 hE2 hb2 => ?_
  replace h := h.ext hE2
  replace hl := hl.ext hE2
  replace hb1 := hb1.ext hE2
  replace hE := hE.ext hE2
  refine LD_box3 hb1 ?_
  refine call (isNetwork_ok h hn.2.2.1) ?_
  rintro x w3 ⟨hx, hE3⟩
  replace h := h.ext hE3
  replace hl := hl.ext hE3
  replace hb1 := hb1.ext hE3
  replace hb2 := hb2.ext hE3
  replace hE := hE.ext hE3
  refine cond_not (fun hf => ⟨hE, [], OutL.nil _ _, .no fun hg => ?_⟩) (fun ht => LD_bs hb2 (LD_bs0 hb1 ?_))
  · rw [hx.2 hg.good] at hf; cases hf
  have hg := hx.1 ht
  have h40 := hg.size.2
  rw [h.1.len, hl.len]
  refine cond_ne (fun hne => ⟨hE, [], OutL.nil _ _, .no fun hg => hne (by have := hg.len; omega)⟩) (fun heq => LD_bs hb2 ?_)
  have hlen : l.length = n.ends.length := by omega
  refine call (allWithin_ok hl _ _) ?_
  rintro y w4 ⟨hy, hE4⟩
  replace h := h.ext hE4
  replace hl := hl.ext hE4
  replace hb1 := hb1.ext hE4
  replace hb2 := hb2.ext hE4
  replace hE := hE.ext hE4
  refine cond_not (fun hf => ⟨hE, [], OutL.nil _ _, .no fun hg => ?_⟩) (fun ht2 => ?_)
  · rw [hy.2 hg.all] at hf; cases hf
  unfold V_i_ProposalMatching_k1
  refine LD_box3 hb1 ?_
  refine call (edges_ok h hg) ?_
  rintro es w6 ⟨hE6, hO⟩
  replace h := h.ext hE6
  replace hl := hl.ext hE6
  replace hb1 := hb1.ext hE6
  replace hb2 := hb2.ext hE6
  replace hE := hE.ext hE6
  refine call (containsFuncQ_ok (hO.rep (edge_I64 hg)).any (proposalMatching1_ok hg hlen hl hb2)) ?_
  rintro z w7 ⟨rfl, hE7⟩
  replace h := h.ext hE7
  replace hl := hl.ext hE7
  replace hb1 := hb1.ext hE7
  replace hb2 := hb2.ext hE7
  replace hE := hE.ext hE7
  have hany : ((edgesOf n.ends).any fun q => l.getD q.1.toNat 0 == l.getD q.2.2.1.toNat 0) = true ↔ Clash n.ends l := by
    rw [clash_iff hg, List.any_eq_true]
    constructor
    · rintro ⟨q, hq, he⟩; exact ⟨q, hq, by simpa using he⟩
    · rintro ⟨q, hq, he⟩; exact ⟨q, hq, by simpa using he⟩
  refine cond_b (fun ht3 => ⟨hE, [], OutL.nil _ _, .no fun hg => hg.apart (hany.1 ht3)⟩) (fun hf => LD_box3 hb1 (LD_bs hb2 ?_))
  have hB : Bip n l := ⟨hg, hlen, hy.1 ht2, fun hc => by rw [hany.2 hc] at hf; cases hf⟩
  refine call (proposalMatching_ok h hl hB) ?_
  rintro r x w8 ⟨hE8, hO8, rfl⟩
  exact ⟨hE.trans hE8, _, ⟨hO8.low hE.size_le, propTo_I64 hg l, by rw [propTo_len]; omega⟩, .yes hB⟩

theorem sProposalMatching_ok {w : World} {a b c s : Sl} {n : Net} {l : List Int} (h : RNet w a b c n) (hl : R w s l) :
    Calls Try.prog F.s_ProposalMatching #[.agg #[a.v, b.v, c.v], s.v] w (Ret [.at .sl, .at (.int .i64), .at .bool] fun (r : Sl) (x : Int) (y : Bool) w' => Ext w w' ∧ ∃ m, R w' r m ∧ AnsG (Bip n l) (propTo n.ends l (roundsTo n.ends l n.ends.length).toNat, roundsTo n.ends l n.ends.length) ([], 0) (m, x) y) := by
  refine C_s_ProposalMatching ?_
  unfold V_s_ProposalMatching
  refine NEW_intro fun p w1 hp hs hE hb1 => LD_box3 hb1 ?_
  replace h := h.ext hE
  replace hl := hl.ext hE
  refine call (neGood_ok h) ?_
  rintro x w2 ⟨hx, hE2⟩
  replace h := h.ext hE2
  replace hl := hl.ext hE2
  replace hb1 := hb1.ext hE2
  replace hE := hE.ext hE2
  refine cond_not (fun hf => ⟨hE, [], (OutL.nil 0 _).rep, .no fun hg => ?_⟩) (fun ht => LD_box3 hb1 ?_)
  · rw [hx.2 hg.good] at hf; cases hf
  have hg := hx.1 ht
  refine call (mtSides_ok h hl hg) ?_
  rintro y w3 ⟨hy, hE3⟩
  replace h := h.ext hE3
  replace hl := hl.ext hE3
  replace hb1 := hb1.ext hE3
  replace hE := hE.ext hE3
  refine cond_not (fun hf => ⟨hE, [], (OutL.nil 0 _).rep, .no fun hg => ?_⟩) (fun ht2 => LD_box3 hb1 ?_)
  · rw [hy.2 hg] at hf; cases hf
  have hB := hy.1 ht2
  refine call (mtProposals_ok h hl hB) ?_
  rintro r x w5 ⟨hE5, hR5, rfl⟩
  exact ⟨hE.trans hE5, _, hR5, .yes hB⟩

end Go.Proofs.Ytcilbmkieclelaa
