/- The vertex cover of the proposals in the double cover, both sides. -/
import Derived.Test.YtknnjkmggenliaaDouble
import Derived.Test.YtknnjkmggenliaaPropose
namespace Go.Proofs.Ytknnjkmggenliaa
open Go.GX Go.RowKit
set_option maxRecDepth 100000

def sidesOf (k : Nat) : List Int := List.replicate k 0 ++ List.replicate k 1
theorem sidesOf_len (k : Nat) : (sidesOf k).length = 2 * k := by simp [sidesOf]; omega
theorem sidesOf_I64 (k : Nat) : ∀ x ∈ sidesOf k, I64 x := fun x hx => by
  rcases List.mem_append.1 hx with h | h <;> (rw [List.eq_of_mem_replicate h]; unfold I64; omega)
theorem sidesOf_lt {k v : Nat} (h : v < k) : (sidesOf k).getD v 0 = 0 := by
  simp [sidesOf, List.getD_eq_getElem?_getD, List.getElem?_append_left, h]
theorem sidesOf_ge {k v : Nat} (h : k ≤ v) (h2 : v < 2 * k) : (sidesOf k).getD v 0 = 1 := by
  have : v - k < k := by omega
  simp [sidesOf, List.getD_eq_getElem?_getD, List.getElem?_append_right, h, this]

theorem dblEnds_len (E : Ends) : (dblEnds E).length = 2 * E.length := dblTo_len _ _ _

theorem dbl_bip {n : Net} (hg : Good n) (hd : Good (dbl n)) : Bip (dbl n) (sidesOf n.ends.length) := by
  have hl : (dbl n).ends.length = 2 * n.ends.length := dblEnds_len _
  refine ⟨hd, by rw [hl, sidesOf_len], ?_, ?_⟩
  · intro x hx
    rcases List.mem_append.1 hx with h | h <;> (rw [List.eq_of_mem_replicate h]; omega)
  · rintro ⟨v, u, hvu, hv, hu, hadj, he⟩
    rw [hl] at hv hu
    have hrow : rowOf (dbl n).ends v = if v < n.ends.length then (rowOf n.ends v).map (upBy n.ends.length) else rowOf n.ends (v - n.ends.length) := by
      show rowOf (dblEnds n.ends) v = _
      rw [dblEnds_eq]
      unfold rowOf
      split
      · rename_i h
        simp [List.getElem?_append_left, h]
      · rename_i h
        simp [List.getElem?_append_right, Nat.le_of_not_lt h]
    unfold adjOf at hadj
    rw [hrow] at hadj
    split at hadj
    · rename_i h
      rw [sidesOf_lt h] at he
      simp only [List.mem_map, List.map_map] at hadj
      obtain ⟨e, hem, hee⟩ := hadj
      rw [rowOf_get h] at hem
      obtain ⟨i, hi, rfl⟩ := List.mem_iff_getElem.1 hem
      obtain ⟨x, y, hxy, hx, _⟩ := hg.far h hi
      rw [hxy] at hee
      simp [upBy] at hee
      rw [sidesOf_ge (by omega) (by omega)] at he
      omega
    · rename_i h
      have h2 : v - n.ends.length < n.ends.length := by omega
      rw [rowOf_get h2] at hadj
      obtain ⟨e, hem, hee⟩ := List.mem_map.1 hadj
      obtain ⟨i, hi, rfl⟩ := List.mem_iff_getElem.1 hem
      obtain ⟨x, y, hxy, hx, _⟩ := hg.far h2 hi
      rw [hxy] at hee
      simp at hee
      omega

def inCover (k : Nat) (m : List Int) (v : Nat) : Bool := decide (0 ≤ m.getD v 0) || decide (0 ≤ m.getD (v + k) 0)
def coverTo (k : Nat) (m : List Int) (i : Nat) : List Int := ((List.range i).filter (inCover k m)).map fun (v : Nat) => (v : Int)
def coverOf (n : Net) : List Int := coverTo n.ends.length (propTo (dbl n).ends (sidesOf n.ends.length) (roundsTo (dbl n).ends (sidesOf n.ends.length) (dbl n).ends.length).toNat) n.ends.length

theorem coverTo_succ (k : Nat) (m : List Int) (i : Nat) : coverTo k m (i + 1) = coverTo k m i ++ if inCover k m i then [(i : Int)] else [] := by
  unfold coverTo
  rw [List.range_succ, List.filter_append, List.map_append]
  congr 1
  by_cases h : inCover k m i <;> simp [h]

theorem coverTo_len (k : Nat) (m : List Int) (i : Nat) : (coverTo k m i).length ≤ i := by
  unfold coverTo
  have := List.length_filter_le (inCover k m) (List.range i)
  simp at this ⊢
  exact this

theorem coverTo_I64 {k : Nat} {m : List Int} {i : Nat} (hi : i ≤ 1000) : ∀ x ∈ coverTo k m i, I64 x := fun x hx => by
  unfold coverTo at hx
  obtain ⟨v, hv, rfl⟩ := List.mem_map.1 hx
  have := (List.mem_filter.1 hv).1
  simp at this
  unfold I64; omega

theorem CoverByProposals_ok {w : World} {a b c : Sl} {n : Net} (h : RNet w a b c n) (hn : Small n) :
    Calls Try.prog F.i_CoverByProposals #[.agg #[a.v, b.v, c.v]] w (Ret [.at .sl, .at .bool] fun (r : Sl) (y : Bool) w' => Ext w w' ∧ ∃ m, OutL w.heap.size w' r m ∧ AnsG (Good n ∧ Good (dbl n)) (coverOf n) [] m y) := by
  refine C_i_CoverByProposals ?_
  unfold V_i_CoverByProposals
  refine NEW_intro fun p w1 hp hs hE hb1 => LD_box3 hb1 ?_
  have hz := hE.size_le
  replace h := h.ext hE
  refine call (DoubleCover_ok h hn) ?_
  rintro x y z k w2 ⟨hE2, hk, hret⟩
  replace hE := hE.ext hE2
  replace hb1 := hb1.ext hE2
  replace h := h.ext hE2
  refine NEW_ST (one3 _ _ _) rfl fun p2 w4 hp2 hE4 hb4 => ?_
  replace hE := hE.ext hE4
  replace hb1 := hb1.ext hE4
  replace h := h.ext hE4
  refine cond_not (fun hf => ⟨hE, [], OutL.nil _ _, .no fun hg => ?_⟩) (fun ht => ?_)
  · rw [hk.2 hg] at hf; cases hf
  obtain ⟨hg, hd⟩ := hk.1 ht
  have hN := (hret ht).ext hE4
  have h40 := hg.size.2
  refine LD_bs0 hb1 ?_
  intro w5 hE5 _
  replace hE := hE.ext hE5
  replace hb4 := hb4.ext hE5
  replace hN := hN.ext hE5
  refine ⟨fun _ => False, not_false, LD_box3 hb4 ?_⟩
  rw [h.1.len]
  have hB := dbl_bip hg hd
  have hA := Ext.refl w5
  have hN5 := hN
  have hpv : ∀ y ∈ propTo (dbl n).ends (sidesOf n.ends.length) (roundsTo (dbl n).ends (sidesOf n.ends.length) (dbl n).ends.length).toNat, I64 y := by
    have hrl := rounds_le hd (sidesOf n.ends.length) (dbl n).ends.length (Nat.le_refl _)
    exact (propTo_vals hd _ (by omega)).I64
  have hfin : ∀ (w' : World) (m : Sl), Ext w5 w' → R w' m (propTo (dbl n).ends (sidesOf n.ends.length) (roundsTo (dbl n).ends (sidesOf n.ends.length) (dbl n).ends.length).toNat) → V_i_CoverByProposals_k2 (fun (r : Sl) (y : Bool) w' => Ext w w' ∧ ∃ m, OutL w.heap.size w' r m ∧ AnsG (Good n ∧ Good (dbl n)) (coverOf n) [] m y) a m w' := by
    intro w20 m hE20 hm
    have hE0 := hE.trans hE20
    have hz0 := hE0.size_le
    unfold V_i_CoverByProposals_k2
    rw [h.1.len]
    have hml := propTo_len (dbl n).ends (sidesOf n.ends.length) (roundsTo (dbl n).ends (sidesOf n.ends.length) (dbl n).ends.length).toNat
    have hcov : coverOf n = coverTo n.ends.length (propTo (dbl n).ends (sidesOf n.ends.length) (roundsTo (dbl n).ends (sidesOf n.ends.length) (dbl n).ends.length).toNat) n.ends.length := rfl
    rw [hcov]
    have hdl : (dbl n).ends.length = 2 * n.ends.length := dblEnds_len _
    generalize propTo (dbl n).ends (sidesOf n.ends.length) (roundsTo (dbl n).ends (sidesOf n.ends.length) (dbl n).ends.length).toNat = M at *
    refine ⟨IN2 n.ends.length fun i (out : Sl) w' => Ext w w' ∧ Ext w20 w' ∧ OwnL w' w20.heap.size T.t_int out (coverTo n.ends.length M i), MN2 n.ends.length, IN2_zero ⟨hE0, Ext.refl _, OwnL.nil _ _ _⟩, ?_⟩
    rintro out _ w21 ⟨i, rfl, hi, hE21, hE221, hO⟩
    intros
    have hcl := coverTo_len n.ends.length M i
    have hsucc := coverTo_succ n.ends.length M i
    refine cond_dec (fun hlt => ?_) (fun hge => ?_)
    · have hi' : i < n.ends.length := by omega
      have hadd : inCover n.ends.length M i = true → RUN Try.prog (.at .sl) (Instr.buildSlice T.t_sl_int 1 #[(0, .int .i64 (i : Int))]) w21 fun (x52 : Sl) w22 => RUN Try.prog (.at .sl) (bsem .append #[T.t_sl_int, T.t_sl_int] T.t_sl_int #[out.v, x52.v]) w22 fun (x53 : Sl) w23 => IN2 n.ends.length (fun i (out : Sl) w' => Ext w w' ∧ Ext w20 w' ∧ OwnL w' w20.heap.size T.t_int out (coverTo n.ends.length M i)) x53 (IntKind.i64.wrap ((i : Int) + 1)) w23 ∧ MN2 n.ends.length x53 (IntKind.i64.wrap ((i : Int) + 1)) w23 < MN2 n.ends.length out (i : Int) w21 := fun hin => by
        refine RUN_lit1 (α := Int) slt_int (i : Int) rfl (by decide) fun r w22 hE22 hO22 => ?_
        have hO' := hO.ext hE22
        have hEE := hE221.trans hE22
        refine RUN_append (α := Int) slt_int hO' hEE.size_le (hO22.rep (by intro z hz; simp at hz; subst hz; show I64 _; unfold I64; omega)).any (by simp; omega) (by simp [maxLen]; omega) fun r' w23 hO23 hs23 => ?_
        refine IN2_next (by omega) hi' ⟨hs23.ext0 (hE21.trans hE22) (fun k hk => Nat.le_trans hz0 (hO'.blk k hk).1), hs23.ext0 hEE (fun k hk => (hO'.blk k hk).1), ?_⟩
        rw [hsucc, hin]; exact hO23
      have g1 : M.getD i 0 = M[i]'(by omega) := by simp [show i < M.length by omega]
      have g2 : M.getD (i + n.ends.length) 0 = M[i + n.ends.length]'(by omega) := by simp [show i + n.ends.length < M.length by omega]
      refine (hm.ext hE221).ixI (i := i) (by omega) fun q _ hc => LD_int hc ?_
      refine cond_dec (fun h1 => hadd (by unfold inCover; rw [g1]; simp; left; omega)) (fun h1 => ?_)
      have e4 : IntKind.i64.wrap ((i : Int) + (n.ends.length : Int)) = ((i + n.ends.length : Nat) : Int) := by rw [wrap_of (by omega) (by omega)]; omega
      rw [e4]
      refine (hm.ext hE221).ixI (i := i + n.ends.length) (by omega) fun q _ hc => LD_int hc ?_
      refine cond_dec (fun h2 => hadd (by unfold inCover; rw [g2]; simp; right; omega)) (fun h2 => IN2_next (by omega) hi' ⟨hE21, hE221, ?_⟩)
      have : inCover n.ends.length M i = false := by unfold inCover; rw [g1, g2]; simp; omega
      rw [hsucc, this]; simpa using hO
    · have : i = n.ends.length := by omega
      subst this
      exact ⟨hE21, _, ⟨hO.low hz0, coverTo_I64 (by omega), by omega⟩, .yes ⟨hg, hd⟩⟩
  refine ⟨?_, ?_⟩
  · skip
    have hzM := hA.size_le
    refine RUN_make (α := Int) slt_int (d := 0) rfl (by omega) (by unfold maxLen; omega) fun s wM hEM hOM => ⟨.of_ext (hA.trans hEM), ?_⟩
    replace hOM := hOM.low (base' := w5.heap.size) (by omega)
    replace hA := hA.ext hEM
    replace hN := hN.ext hEM
    refine RUN_lit1 (α := Int) slt_int 1 rfl (by decide) fun y1 wL hEL hOL => ⟨.of_ext (hA.trans hEL), ?_⟩
    replace hA := hA.ext hEL
    replace hN := hN.ext hEL
    replace hOM := hOM.ext hEL
    refine call (repeat_ok (hOL.rep (by intro z hz; simp at hz; subst hz; show I64 _; unfold I64; omega)).any (by unfold I64; omega) (by omega)) ?_
    rintro y2 wP ⟨hEP, hOP⟩
    refine ⟨.of_ext (hA.trans hEP), ?_⟩
    replace hA := hA.ext hEP
    replace hN := hN.ext hEP
    replace hOM := hOM.ext hEP
    replace hOL := hOL.ext hEP
    have hzA := hA.size_le
    refine RUN_append (α := Int) slt_int hOM hzA (hOP.rep (fun z hz => by rw [List.eq_of_mem_replicate hz]; show I64 _; unfold I64; omega)).any (by simp; omega) (by simp [maxLen]; omega) fun sd wS hOS hsS => ?_
    have hES := hsS.ext0 hA fun k hk => (hOM.blk k hk).1
    refine ⟨.of_ext hES, ?_⟩
    refine call (proposalMatching_ok (hN5.ext hES) (hOS.rep (sidesOf_I64 _)).any hB) ?_
    rintro m x wR ⟨hER, hOR, _⟩
    have hA2 := hES.trans hER
    refine ⟨.of_ext hA2, ?_⟩
    repeat (with_reducible refine ⟨Chg.of_ext hA2, ?_⟩)
    exact hfin wR m hA2 (hOR.rep hpv).any
  · skip
    refine RUN_lit1 (α := Int) slt_int 1 rfl (by decide) fun y1 wL hEL hOL => ⟨.of_ext (hA.trans hEL), ?_⟩
    replace hA := hA.ext hEL
    replace hN := hN.ext hEL
    refine ⟨?_, ?_⟩
    · skip
      have hzM := hA.size_le
      refine RUN_make (α := Int) slt_int (d := 0) rfl (by omega) (by unfold maxLen; omega) fun s wM hEM hOM => ⟨.of_ext (hA.trans hEM), ?_⟩
      replace hOM := hOM.low (base' := w5.heap.size) (by omega)
      replace hA := hA.ext hEM
      replace hN := hN.ext hEM
      replace hOL := hOL.ext hEM
      refine call (repeat_ok (hOL.rep (by intro z hz; simp at hz; subst hz; show I64 _; unfold I64; omega)).any (by unfold I64; omega) (by omega)) ?_
      rintro y2 wP ⟨hEP, hOP⟩
      refine ⟨.of_ext (hA.trans hEP), ?_⟩
      replace hA := hA.ext hEP
      replace hN := hN.ext hEP
      replace hOL := hOL.ext hEP
      replace hOM := hOM.ext hEP
      have hzA := hA.size_le
      refine RUN_append (α := Int) slt_int hOM hzA (hOP.rep (fun z hz => by rw [List.eq_of_mem_replicate hz]; show I64 _; unfold I64; omega)).any (by simp; omega) (by simp [maxLen]; omega) fun sd wS hOS hsS => ?_
      have hES := hsS.ext0 hA fun k hk => (hOM.blk k hk).1
      refine ⟨.of_ext hES, ?_⟩
      refine call (proposalMatching_ok (hN5.ext hES) (hOS.rep (sidesOf_I64 _)).any hB) ?_
      rintro m x wR ⟨hER, hOR, _⟩
      have hA2 := hES.trans hER
      refine ⟨.of_ext hA2, ?_⟩
      repeat (with_reducible refine ⟨Chg.of_ext hA2, ?_⟩)
      exact hfin wR m hA2 (hOR.rep hpv).any
    · skip
      refine call (repeat_ok (hOL.rep (by intro z hz; simp at hz; subst hz; show I64 _; unfold I64; omega)).any (by unfold I64; omega) (by omega)) ?_
      rintro y2 wP ⟨hEP, hOP⟩
      refine ⟨.of_ext (hA.trans hEP), ?_⟩
      replace hA := hA.ext hEP
      replace hN := hN.ext hEP
      replace hOL := hOL.ext hEP
      have hzM := hA.size_le
      refine RUN_make (α := Int) slt_int (d := 0) rfl (by omega) (by unfold maxLen; omega) fun s wM hEM hOM => ⟨.of_ext (hA.trans hEM), ?_⟩
      replace hOM := hOM.low (base' := w5.heap.size) (by omega)
      replace hA := hA.ext hEM
      replace hN := hN.ext hEM
      replace hOL := hOL.ext hEM
      replace hOP := hOP.ext hEM
      have hzA := hA.size_le
      refine RUN_append (α := Int) slt_int hOM hzA (hOP.rep (fun z hz => by rw [List.eq_of_mem_replicate hz]; show I64 _; unfold I64; omega)).any (by simp; omega) (by simp [maxLen]; omega) fun sd wS hOS hsS => ?_
      have hES := hsS.ext0 hA fun k hk => (hOM.blk k hk).1
      refine ⟨.of_ext hES, ?_⟩
      refine call (proposalMatching_ok (hN5.ext hES) (hOS.rep (sidesOf_I64 _)).any hB) ?_
      rintro m x wR ⟨hER, hOR, _⟩
      have hA2 := hES.trans hER
      refine ⟨.of_ext hA2, ?_⟩
      repeat (with_reducible refine ⟨Chg.of_ext hA2, ?_⟩)
      exact hfin wR m hA2 (hOR.rep hpv).any

theorem mtCover_ok {w : World} {a b c : Sl} {n : Net} (h : RNet w a b c n) (hg : Good n) (hd : Good (dbl n)) :
    Calls Try.prog F.s_mtCover #[.agg #[a.v, b.v, c.v]] w (Ret [.at .sl] fun (r : Sl) w' => Ext w w' ∧ R w' r (coverOf n)) := by
  refine C_s_mtCover ?_
  unfold V_s_mtCover
  refine NEW_intro fun p w1 hp hs hE hb1 => LD_bs0 hb1 ?_
  have hz := hE.size_le
  have h40 := hg.size.2
  replace h := h.ext hE
  rw [h.1.len]
  have e2 : IntKind.i64.wrap (2 * (n.ends.length : Int)) = ((2 * n.ends.length : Nat) : Int) := by rw [wrap_of (by omega) (by omega)]; omega
  rw [e2]
  refine RUN_make (α := Int) slt_int (d := 0) rfl (by omega) (by unfold maxLen; omega) fun s w2 hE2 hO2 => ?_
  refine ⟨fun v w' => Ext w1 w' ∧ ∃ i : Nat, v = ((n.ends.length + i : Nat) : Int) ∧ i ≤ n.ends.length ∧ OwnL w' w1.heap.size T.t_int s (List.replicate n.ends.length (0 : Int) ++ (List.replicate i (1 : Int) ++ List.replicate (n.ends.length - i) (0 : Int))), fun v _ => 2 * n.ends.length - v.toNat, ⟨hE2, 0, by simp, by omega, by simpa [show 2 * n.ends.length = n.ends.length + n.ends.length by omega] using hO2⟩, ?_⟩
  rintro _ w3 ⟨hE3, i, rfl, hi, hO3⟩
  intros
  refine cond_dec (fun hlt => ?_) (fun hge => ?_)
  · have hi' : i < n.ends.length := by omega
    refine IX_own hO3 (by simp; omega) rfl fun q hq => ?_
    refine ST_own hO3 (by simp; omega) hq (1 : Int) rfl fun w4 hO4 hs4 => ?_
    rw [wrap_of (by omega) (by omega)]
    refine ⟨⟨hs4.ext0 hE3 (fun k hk => (hO3.blk k hk).1), i + 1, by omega, by omega, ?_⟩, by simp only []; omega⟩
    have e1 : (List.replicate n.ends.length (0 : Int) ++ (List.replicate i 1 ++ List.replicate (n.ends.length - i) 0)).set (n.ends.length + i) 1 = List.replicate n.ends.length 0 ++ (List.replicate (i + 1) 1 ++ List.replicate (n.ends.length - (i + 1)) 0) := by
      rw [List.set_append_right _ _ (by simp), List.length_replicate, Nat.add_sub_cancel_left, List.set_append_right _ _ (by simp), List.length_replicate, Nat.sub_self, show n.ends.length - i = (n.ends.length - (i + 1)) + 1 by omega, List.replicate_succ, List.set_cons_zero, List.replicate_succ' (n := i), List.append_assoc]
      rfl
    rw [← e1]; exact hO4
  have : i = n.ends.length := by omega
  subst this
  rw [Nat.sub_self, List.replicate_zero, List.append_nil] at hO3
  have hRs : R w3 s (sidesOf n.ends.length) := (hO3.rep (sidesOf_I64 _)).any
  refine LD_box3 (hb1.ext hE3) ?_
  refine call (buDouble_ok (h.ext hE3) hg) ?_
  rintro x y z w5 ⟨hE5, hN5⟩
  have hB := dbl_bip hg hd
  refine call (mtProposals_ok hN5 (hRs.ext hE5) hB) ?_
  rintro m _ w20 ⟨hE6, hm, _⟩
  have hE0 := hE.trans (hE3.trans (hE5.trans hE6))
  have hz0 := hE0.size_le
  have hml := propTo_len (dbl n).ends (sidesOf n.ends.length) (roundsTo (dbl n).ends (sidesOf n.ends.length) (dbl n).ends.length).toNat
  have hcov : coverOf n = coverTo n.ends.length (propTo (dbl n).ends (sidesOf n.ends.length) (roundsTo (dbl n).ends (sidesOf n.ends.length) (dbl n).ends.length).toNat) n.ends.length := rfl
  rw [hcov]
  have hdl : (dbl n).ends.length = 2 * n.ends.length := dblEnds_len _
  generalize propTo (dbl n).ends (sidesOf n.ends.length) (roundsTo (dbl n).ends (sidesOf n.ends.length) (dbl n).ends.length).toNat = M at *
  refine ⟨IN2 n.ends.length fun i (out : Sl) w' => Ext w w' ∧ Ext w20 w' ∧ OwnL w' w20.heap.size T.t_int out (coverTo n.ends.length M i), MN2 n.ends.length, IN2_zero ⟨hE0, Ext.refl _, OwnL.nil _ _ _⟩, ?_⟩
  rintro out _ w21 ⟨i, rfl, hi, hE21, hE221, hO⟩
  intros
  have hcl := coverTo_len n.ends.length M i
  have hsucc := coverTo_succ n.ends.length M i
  refine cond_dec (fun hlt => ?_) (fun hge => ?_)
  · have hi' : i < n.ends.length := by omega
    have hadd : inCover n.ends.length M i = true → RUN Try.prog (.at .sl) (Instr.buildSlice T.t_sl_int 1 #[(0, .int .i64 (i : Int))]) w21 fun (x52 : Sl) w22 => RUN Try.prog (.at .sl) (bsem .append #[T.t_sl_int, T.t_sl_int] T.t_sl_int #[out.v, x52.v]) w22 fun (x53 : Sl) w23 => IN2 n.ends.length (fun i (out : Sl) w' => Ext w w' ∧ Ext w20 w' ∧ OwnL w' w20.heap.size T.t_int out (coverTo n.ends.length M i)) x53 (IntKind.i64.wrap ((i : Int) + 1)) w23 ∧ MN2 n.ends.length x53 (IntKind.i64.wrap ((i : Int) + 1)) w23 < MN2 n.ends.length out (i : Int) w21 := fun hin => by
      refine RUN_lit1 (α := Int) slt_int (i : Int) rfl (by decide) fun r w22 hE22 hO22 => ?_
      have hO' := hO.ext hE22
      have hEE := hE221.trans hE22
      refine RUN_append (α := Int) slt_int hO' hEE.size_le (hO22.rep (by intro z hz; simp at hz; subst hz; show I64 _; unfold I64; omega)).any (by simp; omega) (by simp [maxLen]; omega) fun r' w23 hO23 hs23 => ?_
      refine IN2_next (by omega) hi' ⟨hs23.ext0 (hE21.trans hE22) (fun k hk => Nat.le_trans hz0 (hO'.blk k hk).1), hs23.ext0 hEE (fun k hk => (hO'.blk k hk).1), ?_⟩
      rw [hsucc, hin]; exact hO23
    have g1 : M.getD i 0 = M[i]'(by omega) := by simp [show i < M.length by omega]
    have g2 : M.getD (i + n.ends.length) 0 = M[i + n.ends.length]'(by omega) := by simp [show i + n.ends.length < M.length by omega]
    refine (hm.ext hE221).ixI (i := i) (by omega) fun q _ hc => LD_int hc ?_
    refine cond_dec (fun h1 => hadd (by unfold inCover; rw [g1]; simp; left; omega)) (fun h1 => ?_)
    have e4 : IntKind.i64.wrap ((i : Int) + (n.ends.length : Int)) = ((i + n.ends.length : Nat) : Int) := by rw [wrap_of (by omega) (by omega)]; omega
    rw [e4]
    refine (hm.ext hE221).ixI (i := i + n.ends.length) (by omega) fun q _ hc => LD_int hc ?_
    refine cond_dec (fun h2 => hadd (by unfold inCover; rw [g2]; simp; right; omega)) (fun h2 => IN2_next (by omega) hi' ⟨hE21, hE221, ?_⟩)
    have : inCover n.ends.length M i = false := by unfold inCover; rw [g1, g2]; simp; omega
    rw [hsucc, this]; simpa using hO
  · have : i = n.ends.length := by omega
    subst this
    exact ⟨hE21, (hO.rep (coverTo_I64 (by omega))).any⟩

theorem sCoverByProposals_ok {w : World} {a b c : Sl} {n : Net} (h : RNet w a b c n) :
    Calls Try.prog F.s_CoverByProposals #[.agg #[a.v, b.v, c.v]] w (Ret [.at .sl, .at .bool] fun (r : Sl) (y : Bool) w' => Ext w w' ∧ ∃ m, R w' r m ∧ AnsG (Good n ∧ Good (dbl n)) (coverOf n) [] m y) := by
  refine C_s_CoverByProposals ?_
  unfold V_s_CoverByProposals
  refine NEW_intro fun p w1 hp hs hE hb1 => LD_box3 hb1 ?_
  replace h := h.ext hE
  refine call (sDoubleCover_ok h) ?_
  rintro x y z k w2 ⟨hE2, hk⟩
  replace hE := hE.ext hE2
  replace hb1 := hb1.ext hE2
  replace h := h.ext hE2
  refine NEW_ST (one3 _ _ _) rfl fun p2 w4 hp2 hE4 hb4 => ?_
  replace hE := hE.ext hE4
  replace hb1 := hb1.ext hE4
  replace h := h.ext hE4
  refine cond_not (fun hf => ⟨hE, [], (OutL.nil 0 _).rep, .no fun hg => ?_⟩) (fun ht => ?_)
  · rw [hk.2 hg] at hf; cases hf
  obtain ⟨hg, hd⟩ := hk.1 ht
  refine LD_box3 hb1 ?_
  refine call (mtCover_ok h hg hd) ?_
  rintro r w5 ⟨hE5, hR5⟩
  exact ⟨hE.trans hE5, _, hR5, .yes ⟨hg, hd⟩⟩

end Go.Proofs.Ytknnjkmggenliaa
