/- Own texts, merged: Elim5, ElimN, Stable, Dist, Far, Dom, ConfMapPure, ConfMap, Pull1, Pull2, PullN0, PullN, Endless, BoundIn, BoundArg, BoundOk, BoundRight, BoundS, BoundOpen, BoundMem, BoundSz, BoundMark, BadIx, LabMap, ReTable. -/
import Derived.Test.YtndebacmnpghkaaGreatM6
set_option linter.unusedVariables false
section
/- Full lists of node sets, the node step: the program. -/
namespace Go.Proofs.YtndebacmnpghkaaGreat
open Go.GX Go.RowKit
set_option maxRecDepth 100000

theorem RUN_make0 {x : Int} {n : Nat} (hx : x = (n : Nat)) (hn : n ≤ 1000) {w : World} {K : Sl → World → Prop} (hk : ∀ s w', Ext w w' → OwnL w' w.heap.size T.t_int s ([] : List Int) → K s w') : RUN Tryz.prog (.at .sl) (Instr.makeSlice T.t_sl_int (.int .i64 0) (.int .i64 x)) w K := by
  subst hx
  obtain ⟨i, hi, hz0, hs, hby⟩ := slt_int.parts
  have hr := run_make (P := Tryz.prog) w T.t_sl_int T.t_int i (.int .i64 0) slt_int.under hi hz0 .i64 .i64 0 (n : Int) (by omega) (by omega) (by rw [hby]; omega) (by omega)
  unfold RUN
  rw [hr]
  refine hk ⟨some ⟨w.heap.size, 0, none⟩, 0, n⟩ _ (ext_push w _) ?_
  have hone : (Value.int .i64 0).cells = #[.int .i64 0] := rfl
  refine own_empty (α := Int) (cap := n) (cur := madeCells (Value.int .i64 0).cells ((n : Int).toNat * i.size)) ?_ (by unfold maxLen; omega) ?_
  · exact Array.getElem?_push_size
  · rw [hs, hone]; simp [madeCells, Rep.sz]

theorem fulls_take {p : Prob} {M : List (List Int)} {i : Nat} (hi : i < M.length) : fullsOf p (M.take (i + 1)) = fullsOf p (M.take i) ++ fullsOf p [M[i]] := by
  unfold fullsOf
  rw [List.take_succ_eq_append_getElem hi, List.filter_append, List.map_append]

theorem fulls_len {p : Prob} (M : List (List Int)) : (fullsOf p M).length ≤ M.length := by
  unfold fullsOf
  rw [List.length_map]
  exact List.length_filter_le _ _

structure FullsIs (w : World) (p : Prob) (r : Sl) (w' : World) : Prop where
  ext : Ext w w'
  ex : ∃ A tt, RowsD w' w.heap.size T.t_int T.t_sl_int r A tt ∧ (∀ l, l ∈ A ↔ l ∈ nodeFull p) ∧ A.length ≤ 262144

theorem fullLists_k2_ok {w w4 : World} {c d x : Sl} {p : Prob} {pa : Addr} (hg : PGood p) (hf : ¬ (p.degree = 4 ∧ 6 < p.labels)) (hE : Ext w w4) (hNS : NS w4 pa p c d) (hR : R w4 x (msets (2 ^ p.labels.toNat - 1) (p.degree.toNat - 1))) :
    V_ptr_i_nodeSets_fullLists_k2 (FullsIs w p) pa x x.len w4 := by
  have hlab := hg.lab
  have hdeg := hg.deg
  have htwo := two_lab hg
  unfold V_ptr_i_nodeSets_fullLists_k2
  have hml := Nat.le_trans (msets_len (2 ^ p.labels.toNat - 1) (p.degree.toNat - 1)) (pow_sets hg hf _ (Nat.le_refl _))
  rw [hR.len]
  generalize hM : msets (2 ^ p.labels.toNat - 1) (p.degree.toNat - 1) = M at *
  have hMm : ∀ r ∈ M, InM (2 ^ p.labels.toNat - 1) (p.degree.toNat - 1) r := fun r hr => mem_msets.1 (by rw [hM]; exact hr)
  have hfl64 : ∀ L : List (List Int), (∀ r ∈ L, r ∈ M) → ∀ r ∈ fullsOf p L, ∀ y ∈ r, I64 y := fun L hL r hr y hy => by
    unfold fullsOf at hr
    obtain ⟨e, he, rfl⟩ := List.mem_map.1 hr
    have hI := hMm e (hL e (List.mem_filter.1 he).1)
    rcases List.mem_append.1 ((sortI_perm _).mem_iff.1 hy) with h1 | h1
    · obtain ⟨z, hz, rfl⟩ := List.mem_map.1 h1
      have := hI.labs z hz
      unfold I64; omega
    · rw [List.mem_singleton.1 h1]
      have := complM_lt p (e.map (· + 1))
      unfold I64; omega
  refine ⟨IN2 M.length fun i (out : Sl) w' => Ext w4 w' ∧ ∃ ss, RowsD w' w4.heap.size T.t_int T.t_sl_int out (fullsOf p (M.take i)) ss, MN2 M.length, IN2_zero ⟨Ext.refl _, [], by simpa [fullsOf] using RowsD.nil _ _ _ _⟩, ?_⟩
  rintro out _ w5 ⟨i, rfl, hi, hE5, ss, hS5⟩
  intros
  refine cond_dec (fun hlt => ?_) (fun hge => ?_)
  · have hi' : i < M.length := by omega
    have hMi := hMm _ (List.getElem_mem hi')
    refine hR.ixL0 hE5 hi' fun q row hrow hc => LD_sl hc ?_
    obtain ⟨af, A, hbA, _, _, _⟩ := hNS.ext hE5
    refine LD_bi1 hbA ?_
    have ek : p.degree = ((p.degree.toNat : Nat) : Int) := by omega
    refine RUN_make0 ek (by omega) fun la w6 hE6 hO6 => ?_
    have hrow6 := (hrow.ext hE5).ext hE6
    rw [hrow6.len]
    have hz6 := hE6.size_le
    let c1 : List Int := M[i].map (· + 1)
    have hc1v : ∀ x ∈ c1, ∃ m : Nat, x = m ∧ m < 2 ^ p.labels.toNat := fun x hx => by
      obtain ⟨z, hz, rfl⟩ := List.mem_map.1 hx
      have := hMi.labs z hz
      exact ⟨(z + 1).toNat, by omega, by omega⟩
    have hMl := hMi.len
    have hone : ∀ {q : Bool}, (decide (complM p c1 ≠ 0) && fullB p (c1 ++ [complM p c1])) = q → fullsOf p [M[i]] = bif q then [sortI (c1 ++ [complM p c1])] else [] := fun {q} hq => by
      unfold fullsOf
      rw [List.filter_cons]
      have : (decide (complM p (M[i].map (· + 1)) ≠ 0) && fullB p (M[i].map (· + 1) ++ [complM p (M[i].map (· + 1))])) = q := hq
      rw [this]
      cases q <;> rfl
    have hskip : ∀ {w' : World}, Ext w5 w' → (decide (complM p c1 ≠ 0) && fullB p (c1 ++ [complM p c1])) = false → IN2 M.length (fun i (out : Sl) w' => Ext w4 w' ∧ ∃ ss, RowsD w' w4.heap.size T.t_int T.t_sl_int out (fullsOf p (M.take i)) ss) out (IntKind.i64.wrap ((i : Int) + 1)) w' ∧ MN2 M.length out (IntKind.i64.wrap ((i : Int) + 1)) w' < MN2 M.length out (i : Int) w5 := fun {w'} hE' hq => by
      refine IN2_next hR.le hi' ⟨hE5.trans hE', ss, ?_⟩
      rw [fulls_take hi', hone hq]
      simpa using hS5.ext hE'
    have hml2 : ∀ j, j ≤ M[i].length → ((M[i].take j).map (· + 1)).length = j := fun j hj => by rw [List.length_map, List.length_take]; omega
    refine ⟨IN2 M[i].length fun j (o : Sl) w' => OwnL w' w5.heap.size T.t_int o ((M[i].take j).map (· + 1)) ∧ Ext w5 w', MN2 M[i].length, IN2_zero ⟨hO6, hE6⟩, ?_⟩
    rintro o _ w7 ⟨j, rfl, hj, hO7, hE57⟩
    intros
    have hrow7 := (hrow.ext hE5).ext hE57
    have hz7 := hE57.size_le
    have hj2 := hml2 j hj
    refine cond_dec (fun hlt2 => ?_) (fun hge2 => ?_)
    · have hj' : j < M[i].length := by omega
      have hmj := hMi.labs _ (List.getElem_mem hj')
      refine hrow7.ixI hj' fun q _ hc => LD_int hc ?_
      rw [wrap_of (n := M[i][j] + 1) (by omega) (by omega)]
      refine RUN_lit1 (α := Int) slt_int _ rfl (by decide) fun y w8 hE8 hO8 => ?_
      have hO78 := hO7.ext hE8
      refine RUN_append (α := Int) slt_int hO78 (by have := hE8.size_le; omega) (hO8.rep (by intro x hx; rw [List.mem_singleton.1 hx]; show I64 _; unfold I64; omega)).any (by simp; omega) (by simp [maxLen]; omega) fun o' w9 hO9 hs9 => ?_
      refine IN2_next hrow7.le hj' ⟨?_, hs9.ext0 (hE57.trans hE8) fun k hk => (hO78.blk k hk).1⟩
      rw [map_take_succ hj']
      exact hO9
    · have : j = M[i].length := by omega
      subst this
      rw [List.take_length] at hO7
      have hc164 : ∀ x ∈ c1, I64 x := fun x hx => by obtain ⟨m, rfl, hm⟩ := hc1v x hx; unfold I64; omega
      have hc1l : c1.length = p.degree.toNat - 1 := by show (M[i].map (· + 1)).length = _; rw [List.length_map, hMl]
      refine call (completing_ok hg (hNS.ext (hE5.trans hE57)) (hO7.rep hc164).any hc1l hc1v) ?_
      rintro _ w10 ⟨rfl, hE10⟩
      have hE510 := hE57.trans hE10
      have hclt := complM_lt p c1
      have hcI : I64 (complM p c1) := by unfold I64; omega
      refine cond_eq (fun h0 => hskip hE510 ?_) (fun hne => ?_)
      · have h0' : complM p c1 = 0 := h0
        simp [h0']
      · have hne' : complM p c1 ≠ 0 := hne
        refine RUN_lit1 (α := Int) slt_int _ rfl (by decide) fun y w11 hE11 hO11 => ?_
        have hO711 := (hO7.ext hE10).ext hE11
        have hz10 := hE10.size_le
        have hz11 := hE11.size_le
        refine RUN_append (α := Int) slt_int hO711 (by omega) (hO11.rep (by intro x hx; rw [List.mem_singleton.1 hx]; exact hcI)).any (by simp; omega) (by simp [maxLen]; omega) fun o2 w12 hO12 hs12 => ?_
        have hE512 : Ext w5 w12 := hs12.ext0 (hE510.trans hE11) fun k hk => (hO711.blk k hk).1
        have hc2v : ∀ x ∈ c1 ++ [complM p c1], ∃ m : Nat, x = m ∧ m < 2 ^ p.labels.toNat := fun x hx => by
          rcases List.mem_append.1 hx with h1 | h1
          · exact hc1v x h1
          · rw [List.mem_singleton.1 h1]; exact ⟨(complM p c1).toNat, by omega, by omega⟩
        have hc264 : ∀ x ∈ c1 ++ [complM p c1], I64 x := fun x hx => by obtain ⟨m, rfl, hm⟩ := hc2v x hx; unfold I64; omega
        have hc2l : (c1 ++ [complM p c1]).length = p.degree.toNat := by rw [List.length_append, hc1l]; simp; omega
        refine call (isFull_ok hg (hNS.ext (hE5.trans hE512)) (hO12.rep hc264).any hc2l hc2v) ?_
        rintro _ w13 ⟨rfl, hE13⟩
        have hE513 := hE512.trans hE13
        refine cond_b (fun ht => ?_) (fun hff => hskip hE513 (by rw [hff]; simp))
        have hO13 : OwnL w13 w5.heap.size T.t_int o2 (c1 ++ [complM p c1]) := hO12.ext hE13
        refine call (sort_ok hO13 (by omega)) ?_
        rintro w14 ⟨hO14, hs14⟩
        have hE514 : Ext w5 w14 := hs14.ext0 hE513 fun k hk => (hO13.blk k hk).1
        refine RUN_lit1 (α := Sl) slt_rows o2 rfl (by decide) fun y2 w15 hE15 hO15 => ?_
        have hE515 := hE514.trans hE15
        have hS15 := hS5.ext hE515
        have hz5 := hE5.size_le
        have hz15 := hE515.size_le
        have hfl := fulls_len (p := p) (M.take i)
        have htl : (M.take i).length ≤ i := by rw [List.length_take]; omega
        refine RUN_append_rowD slt_rows (by decide) hS15 (by omega) ((hO14.ext hE15).low hz5) (hS5.fresh (hO14.ext hE15) (Nat.le_refl _)) hO15 (by omega) (by unfold maxLen; omega) fun s' w16 hS16 hs16 => ?_
        refine IN2_next hR.le hi' ⟨hs16.ext0 (hE5.trans hE515) fun k hk => (hS15.own.blk k hk).1, ss ++ [o2], ?_⟩
        rw [fulls_take hi', hone (q := true) (by rw [ht]; simp [hne'])]
        exact hS16
  · have : i = M.length := by omega
    subst this
    rw [List.take_length] at hS5
    refine call (sortedLists_ok hS5 (hfl64 M fun r hr => hr) (by have := fulls_len (p := p) M; omega)) ?_
    rintro r w6 ⟨hC6, A, tt, hA, hAr, hAm, hAl⟩
    have hE46 : Ext w4 w6 := hC6.ext0 hE5 fun k hk => (hS5.own.blk k hk).1
    refine ⟨hE.trans hE46, A, tt, hA.low hE.size_le, fun l => ?_, by have := fulls_len (p := p) M; omega⟩
    rw [hAm, ← hM]
    exact fulls_mem (by omega)

theorem fullLists_ok {w : World} {c d : Sl} {p : Prob} {pa : Addr} (hg : PGood p) (hf : ¬ (p.degree = 4 ∧ 6 < p.labels)) (hNS : NS w pa p c d) :
    Calls Tryz.prog F.ptr_i_nodeSets_fullLists #[.pointer (some pa)] w (Ret [.at .sl] (FullsIs w p)) := by
  refine C_ptr_i_nodeSets_fullLists ?_
  unfold V_ptr_i_nodeSets_fullLists
  have hlab := hg.lab
  have hdeg := hg.deg
  have htwo := two_lab hg
  intro w1 hE1 _
  have hNS1 := hNS.ext hE1
  obtain ⟨af, A, hbA, _, _, _⟩ := id hNS1
  have en : p.labels = ((p.labels.toNat : Nat) : Int) := by omega
  have e1 : IntKind.i64.wrap (shlI .i64 1 p.labels - 1) = ((2 ^ p.labels.toNat - 1 : Nat) : Int) := by
    rw [en, shl_one (by omega), Int.toNat_natCast]
    have := Nat.two_pow_pos p.labels.toNat
    generalize 2 ^ p.labels.toNat = q at htwo this ⊢
    rw [wrap_of (by omega) (by omega)]; omega
  have e2 : IntKind.i64.wrap (p.degree - 1) = ((p.degree.toNat - 1 : Nat) : Int) := by rw [wrap_of (by omega) (by omega)]; omega
  have hms := multisets_ok w1 (n := 2 ^ p.labels.toNat - 1) (k := p.degree.toNat - 1) (by omega) (by omega) fun j hj => Nat.le_trans (pow_sets hg hf j hj) (by omega)
  have h64 : ∀ r ∈ msets (2 ^ p.labels.toNat - 1) (p.degree.toNat - 1), ∀ x ∈ r, I64 x := fun r hr x hx => by have := (mem_msets.1 hr).labs x hx; unfold I64; omega
  refine ⟨⟨Ext.refl _, LD_bi0 hbA ⟨by omega, Ext.refl _, Ext.refl _, Ext.refl _, LD_bi1 hbA ⟨Ext.refl _, Ext.refl _, ?_⟩⟩⟩, ⟨Ext.refl _, LD_bi1 hbA ⟨Ext.refl _, Ext.refl _, Ext.refl _, LD_bi0 hbA ⟨Ext.refl _, by omega, Ext.refl _, Ext.refl _, ?_⟩⟩⟩⟩
  · rw [e1, e2]
    refine call hms ?_
    rintro x w2 ⟨hE2, ss, hM⟩
    exact ⟨hE2, Ext.refl _, fullLists_k2_ok hg hf (hE1.trans hE2) (hNS1.ext hE2) (hM.rep h64)⟩
  · rw [e1, e2]
    refine call hms ?_
    rintro x w2 ⟨hE2, ss, hM⟩
    exact ⟨hE2, Ext.refl _, fullLists_k2_ok hg hf (hE1.trans hE2) (hNS1.ext hE2) (hM.rep h64)⟩

theorem node_byte {p : Prob} (hg : PGood p) : Byte (nodeFull p) := fun l hl x hx => by
  have h1 := (nodeFull_conf p l hl).vals x hx
  have h2 := two_lab hg
  exact ⟨x.toNat, by omega, by omega⟩

theorem node_len {p : Prob} : ∀ r ∈ nodeFull p, r.length = p.degree.toNat := fun l hl => (nodeFull_conf p l hl).len

theorem byte_congr {L L' : List (List Int)} (h : ∀ x, x ∈ L ↔ x ∈ L') (hB : Byte L') : Byte L := fun l hl x hx => hB l ((h l).1 hl) x hx

theorem nodeStep_ok {w : World} {c d : Sl} {p : Prob} (h : RProb w c d p) (hs : SmallP p) (hg : PGood p) :
    Calls Tryz.prog F.i_nodeStep #[.agg #[.int .i64 p.labels, .int .i64 p.degree, c.v, d.v]] w (Ret [.agg [.int .i64, .int .i64, .sl, .sl], .at .sl, .at .bool] (StIs w (nodeP p) (ndFew p) (nodeSets p))) := by
  refine C_i_nodeStep ?_
  unfold V_i_nodeStep
  refine NEW_intro fun pp w1 hp1 hs1 hE1 hb1 => NEW_intro fun px w2 hp2 hs2 hE2 hb2 => LD_bi1 (hb1.ext hE2) ?_
  have hE := hE1.trans hE2
  have hz1 := hE1.size_le
  replace h := h.ext hE
  replace hb1 := hb1.ext hE2
  have hlab := hg.lab
  have hd := hg.deg
  have hgo : ¬ (p.degree = 4 ∧ 6 < p.labels) → V_i_nodeStep_k1 (StIs w (nodeP p) (ndFew p) (nodeSets p)) pp px w2 := fun hfit => by
    unfold V_i_nodeStep_k1
    refine LD_iiss hb1 ?_
    refine call (newNodeSets_ok h hs hg) ?_
    rintro pa w3 ⟨hE3, hNS⟩
    refine call (fullLists_ok hg hfit hNS) ?_
    rintro x w4 hFI
    obtain ⟨hE4, A, tt, hA, hAm, hAl⟩ := hFI
    have hE24 := hE3.trans hE4
    have hBA := byte_congr hAm (node_byte hg)
    have h64A : ∀ r ∈ A, ∀ x ∈ r, I64 x := fun r hr x hx => by obtain ⟨m, rfl, hm⟩ := hBA r hr x hx; unfold I64; omega
    refine call (newLabels_ok (k := p.degree.toNat) (hA.rep h64A) hBA (fun r hr => node_len r ((hAm r).1 hr)) (by omega) hAl) ?_
    rintro a b w5 ⟨hE5, hOa, tb, hRb⟩
    rw [setsOf_congr hAm] at hOa
    rw [ownOf_congr hAm] at hRb
    have hE25 := hE24.trans hE5
    replace h := h.ext hE25
    replace hb1 := hb1.ext hE25
    replace hb2 := hb2.ext hE25
    refine NEW_ST (zs := [.slice none 0 0]) (one1s a) rfl fun ps w6 hps hE6 hb6 => ?_
    replace h := h.ext hE6
    replace hb1 := hb1.ext hE6
    replace hb2 := hb2.ext hE6
    replace hOa := hOa.ext hE6
    replace hRb := hRb.ext hE6
    have hSv : ∀ x ∈ setsOf (nodeFull p), ∃ m : Nat, x = m ∧ m < 256 := byte_sets rfl
    have hS64 : ∀ y ∈ setsOf (nodeFull p), I64 y := fun y hy => by obtain ⟨m, rfl, hm⟩ := setsOf_byte hy; unfold I64; omega
    have hE26 := hE25.trans hE6
    have hE06 := hE.trans hE26
    have haL : a.len = (setsOf (nodeFull p)).length := hOa.1
    refine LD_bs hb6 ?_
    refine call (within_ok _ _ _ _) ?_
    rintro _ _ ⟨rfl, rfl⟩
    rw [haL]
    refine cond_not (fun hf => ?_) (fun ht => LD_bs hb6 ?_)
    · exact zero_problem hE06 hb2 (by omega) fun w' hE' => ⟨hE', .inr ⟨rfl, fun hfew => inR_false hf ⟨by have := hfew.2.1; unfold nodeSets at this; omega, by have := hfew.2.2; unfold nodeSets at this; omega⟩⟩⟩
    · have hr := inR_true ht
      have hfew : ndFew p := ⟨hfit, by unfold nodeSets; omega, by unfold nodeSets; omega⟩
      have e2 : (2 : Int) = ((2 : Nat) : Int) := rfl
      rw [haL, e2]
      refine call (allowedBy_ok (p := fun l => (prodL (listsAt (setsOf (nodeFull p)) l)).any (nodeB2 p)) (by omega) (by omega) (pow_small8 (by omega) (by omega)) fun l hM w' t hE' hl => nodeStep1_ok h hs hg hb1 hb6 (hOa.rep hS64).any hSv (by omega) (.inl rfl) hM hE' hl) ?_
      rintro z w7 ⟨hE7, ssz, hz⟩
      intro w8 hE8 _
      have hE68 := hE7.trans hE8
      replace hb1 := hb1.ext hE68
      replace hb2 := hb2.ext hE68
      replace hb6 := hb6.ext hE68
      replace hOa := hOa.ext hE68
      replace hRb := hRb.ext hE68
      have hlt2 := hb2.lt
      have hz5 := hE25.size_le
      have hpp : pp.block ≠ px.block := by omega
      have hpsb : ps.block ≠ px.block := by omega
      refine ⟨fun b => b = px.block, hpsb, LD_bs hb6 ⟨by rw [add_block]; exact hpp, LD_bi1 hb1 ⟨hpsb, LD_bs hb6 ?_⟩⟩⟩
      rw [haL]
      refine ST_all hb2 (one4p _ _ _ _) rfl fun w9 hs9 hz9 hb9 => ⟨.of_step hs9 fun k hk => by cases hk; rfl, LD_iiss hb9 ?_⟩
      have hz6 := hE26.size_le
      have hz4 := hE24.size_le
      have hkeep : ∀ k, w2.heap.size ≤ k → k < w8.heap.size → w9.heap[k]? = w8.heap[k]? := fun k h1 h2 => hs9.block k h2 (by intro he; cases he; omega)
      have hmade : PGood (nodeP p) := (NdAsked.mk hg hfit hfew.2).made
      refine ⟨hs9.ext0 (hE06.trans hE68) fun k hk => by cases hk; omega, .inl ⟨rfl, hfew, rfl, rfl, NewP.low (base := w2.heap.size) ⟨?_, ?_, ?_, ?_, ?_⟩ hE.size_le⟩⟩
      · show I64 (((nodeSets p).length : Nat) : Int); unfold I64 nodeSets; omega
      · show I64 p.degree; unfold I64; omega
      · exact ((hRb.low (b := w2.heap.size) hz4).keep hkeep).own2.repD (conf_I64 hmade.nodes hmade.lab.2)
      · exact (((hz.ext hE8).low (b := w2.heap.size) hz6).keep hkeep).own2.repD (conf_I64 hmade.edges hmade.lab.2)
      · exact ((hOa.low (base' := w2.heap.size) hz4).keep fun k hk => hkeep k (by have := (hOa.blk k hk).1; omega) (hOa.blk k hk).2).rep hS64
  refine cond_eq (fun h4 => LD_bi0 hb1 (cond_dec (fun h6 => ?_) (fun h6 => hgo fun hh => h6 hh.2))) (fun h4 => hgo fun hh => h4 hh.1)
  exact zero_problem hE hb2 (by omega) fun w' hE' => ⟨hE', .inr ⟨rfl, fun hfew => hfew.1 ⟨h4, h6⟩⟩⟩

def ndGood (p : Prob) : Prop := PGood p ∧ ndFew p

end Go.Proofs.YtndebacmnpghkaaGreat
end

section
/- The node step, the reference; the node step of problems that are asked for, both sides. -/
namespace Go.Proofs.YtndebacmnpghkaaGreat
open Go.GX Go.RowKit
set_option maxRecDepth 100000

theorem RUN_makeB {x : Int} {n : Nat} (hx : x = (n : Nat)) (hn : n ≤ 1000000) {w : World} {K : Sl → World → Prop} (hk : ∀ s w', Ext w w' → OwnL w' w.heap.size T.t_bool s (List.replicate n false) → K s w') : RUN Tryz.prog (.at .sl) (Instr.makeSlice T.t_sl_bool (.int .i64 x) (.int .i64 x)) w K := by
  subst hx
  exact RUN_make (α := Bool) slt_bool (d := false) rfl (by omega) (by unfold maxLen; omega) hk

theorem elTabled_ok {w : World} {c d : Sl} {p : Prob} (h : RProb w c d p) (hg : PGood p) :
    Calls Tryz.prog F.s_elTabled #[.agg #[.int .i64 p.labels, .int .i64 p.degree, c.v, d.v]] w (Ret [.agg [.int .i64, .int .i64, .sl, .sl, .sl]] fun (x : Int) (y : Int) (z : Sl) (u : Sl) (g : Sl) w' => TIs w p c d x y z u g w') := by
  refine C_s_elTabled ?_
  unfold V_s_elTabled
  refine NEW_intro fun pp w1 hp1 hs1 hE1 hb1 => NEW_intro fun px w2 hp2 hs2 hE2 hb2 => ?_
  have hE := hE1.trans hE2
  replace hb1 := hb1.ext hE2
  have hlab := hg.lab
  have hdeg := hg.deg
  have hz := hE1.size_le
  have en : p.labels = ((p.labels.toNat : Nat) : Int) := by omega
  have hN : ∀ j, j ≤ p.degree.toNat → p.labels.toNat ^ j ≤ 4096 := fun j hj => by
    have b1 : p.labels.toNat ^ j ≤ 8 ^ j := Nat.pow_le_pow_left (by omega) _
    have b2 : 8 ^ j ≤ 8 ^ 4 := Nat.pow_le_pow_right (by decide) (by omega)
    have b3 : 8 ^ 4 = 4096 := by decide
    omega
  refine ⟨fun (s : Int) (k : Int) w' => ∃ j : Nat, k = j ∧ j ≤ p.degree.toNat ∧ s = ((p.labels.toNat ^ j : Nat) : Int) ∧ Ext w2 w', fun _ k _ => p.degree.toNat - k.toNat, ⟨0, rfl, Nat.zero_le _, by simp, Ext.refl _⟩, ?_⟩
  rintro _ _ w3 ⟨j, rfl, hj, rfl, hE3⟩
  intros
  replace hb1 := hb1.ext hE3
  replace hb2 := hb2.ext hE3
  have hNj := hN j hj
  refine LD_bi1 hb1 (cond_dec (fun hlt => LD_bi0 hb1 ?_) (fun hge => ?_))
  · have e1 : ((p.labels.toNat ^ j : Nat) : Int) * p.labels = ((p.labels.toNat ^ (j + 1) : Nat) : Int) := by rw [Nat.pow_succ, Int.natCast_mul, ← en]
    have hN1 := hN (j + 1) (by omega)
    rw [e1, wrapN (by omega), wrap_of (by omega) (by omega)]
    exact ⟨⟨j + 1, by omega, by omega, rfl, hE3⟩, by simp only []; omega⟩
  · have : j = p.degree.toNat := by omega
    subst this
    intro w4 hE4 _
    replace hb1 := hb1.ext hE4
    replace hb2 := hb2.ext hE4
    have hE24 := hE3.trans hE4
    have hE04 := hE.trans hE24
    have hz2 := hE24.size_le
    have hl1 := hb1.lt
    have hl2 := hb2.lt
    refine ⟨fun b => w4.heap.size ≤ b, by omega, LD_iiss hb1 ⟨?_, ?_⟩⟩
    · refine RUN_makeB rfl (by omega) fun g w5 hE5 hO5 => ⟨.of_ext hE5, NEW_intro fun px5 w6 hp6 hs6 hE6 hb6 => ⟨.of_ext (hE5.trans hE6), ?_⟩⟩
      have hE46 := hE5.trans hE6
      have hz5 := hE5.size_le
      refine ST_all hb6 (one5p _ _ _ _ _) rfl fun w7 hs7 hz7 hb7 => ⟨(Chg.of_ext hE46).trans (.of_step hs7 fun k hk => by cases hk; omega), ?_⟩
      have hE47 : Ext w4 w7 := hs7.ext0 hE46 fun k hk => by cases hk; omega
      exact elTabled_k4_ok hg (hE04.trans hE47) h (hb1.ext hE47) (hb2.ext hE47) hb7 ((hO5.ext hE6).stepB hb6 (by decide) hs7) (by omega) (by omega)
    · refine NEW_intro fun px5 w8 hp8 hs8 hE8 hb8 => ⟨.of_ext hE8, ?_⟩
      have hz8 := hE8.size_le
      refine RUN_makeB rfl (by omega) fun g w9 hE9 hO9 => ⟨.of_ext (hE8.trans hE9), .of_ext (hE8.trans hE9), ?_⟩
      have hE49 := hE8.trans hE9
      have hb9 := hb8.ext hE9
      refine ST_all hb9 (one5p _ _ _ _ _) rfl fun w10 hs10 hz10 hb10 => ⟨(Chg.of_ext hE49).trans (.of_step hs10 fun k hk => by cases hk; omega), ?_⟩
      have hE4x : Ext w4 w10 := hs10.ext0 hE49 fun k hk => by cases hk; omega
      exact elTabled_k4_ok hg (hE04.trans hE4x) h (hb1.ext hE4x) (hb2.ext hE4x) hb10 (hO9.stepB hb9 (by decide) hs10) (by omega) (by omega)

/-! ### The full lists, the reference's way -/

def gG (p : Prob) (c : List Int) : List Int := c.map (· + 1) ++ [complM p (c.map (· + 1))]
def gF (p : Prob) (c : List Int) : Bool := decide (complM p (c.map (· + 1)) ≠ 0) && (c.map (· + 1)).all (fun x => decide (x ≤ complM p (c.map (· + 1)))) && fullB p (gG p c)
def fullsS (p : Prob) (C : List (List Int)) : List (List Int) := (C.filter (gF p)).map (gG p)

theorem fullsS_mem {p : Prob} {d : Nat} (hd : p.degree.toNat = d + 1) {l : List Int} : l ∈ fullsS p (msets (2 ^ p.labels.toNat - 1) d) ↔ l ∈ nodeFull p := by
  rw [nodeFull_of' hd]
  unfold fullsS setLists
  rw [List.mem_map]
  constructor
  · rintro ⟨c, hc, rfl⟩
    rw [List.mem_filter] at hc
    have h2 := hc.2
    unfold gF at h2
    rw [Bool.and_eq_true, Bool.and_eq_true, decide_eq_true_eq, List.all_eq_true] at h2
    exact ⟨_, List.mem_map.2 ⟨c, hc.1, rfl⟩, h2.1.1, fun x hx => of_decide_eq_true (h2.1.2 x hx), h2.2, rfl⟩
  · rintro ⟨c, hc, h0, hle, hf, rfl⟩
    obtain ⟨e, he, rfl⟩ := List.mem_map.1 hc
    refine ⟨e, ?_, rfl⟩
    rw [List.mem_filter]
    refine ⟨he, ?_⟩
    unfold gF
    rw [Bool.and_eq_true, Bool.and_eq_true, decide_eq_true_eq, List.all_eq_true]
    exact ⟨⟨h0, fun x hx => decide_eq_true (hle x hx)⟩, hf⟩

theorem fullsS_take {p : Prob} {M : List (List Int)} {i : Nat} (hi : i < M.length) : fullsS p (M.take (i + 1)) = fullsS p (M.take i) ++ fullsS p [M[i]] := by
  unfold fullsS
  rw [List.take_succ_eq_append_getElem hi, List.filter_append, List.map_append]

theorem fullsS_len {p : Prob} (M : List (List Int)) : (fullsS p M).length ≤ M.length := by
  unfold fullsS
  rw [List.length_map]
  exact List.length_filter_le _ _

theorem last_max {n k : Nat} {c : List Int} (h : InM n k c) (hc : 0 < c.length) {v : Int} : (c.map (· + 1)).all (fun x => decide (x ≤ v)) = !decide (v < (c.map (· + 1))[(c.map (· + 1)).length - 1]'(by rw [List.length_map]; omega)) := by
  rw [Bool.eq_iff_iff, List.all_eq_true, Bool.not_eq_true', decide_eq_false_iff_not]
  have hlast := last_of_len hc fun x hx => (h.labs x hx).1
  have hel : (c.map (· + 1))[(c.map (· + 1)).length - 1]'(by rw [List.length_map]; omega) = (lastOf c : Int) + 1 := by
    rw [← hlast]; simp
  rw [hel]
  constructor
  · intro hx
    have := of_decide_eq_true (hx ((lastOf c : Int) + 1) (List.mem_map.2 ⟨lastOf c, by rw [← hlast]; exact List.getElem_mem _, rfl⟩))
    omega
  · intro hv x hx
    obtain ⟨y, hy, rfl⟩ := List.mem_map.1 hx
    have := le_last h.sorted (fun x hx => (h.labs x hx).1) y hy
    rw [decide_eq_true_eq]; omega

theorem elNode_k1_ok {w w4 : World} {c d : Sl} {p : Prob} {px1 px2 : Addr} (hg : PGood p) (hf : ¬ (p.degree = 4 ∧ 6 < p.labels)) (h : RProb w c d p) (hE : Ext w w4) (hb1 : Box w4 px1 T.t_i_Problem [.int .i64 p.labels, .int .i64 p.degree, c.v, d.v]) (hb2 : Box w4 px2 T.t_i_Problem [.int .i64 0, .int .i64 0, .slice none 0 0, .slice none 0 0]) (hp2 : w.heap.size ≤ px2.block) :
    V_s_elNode_k1 (StIs w (nodeP p) (ndFew p) (nodeSets p)) px1 px2 w4 := by
  have hlab := hg.lab
  have hdeg := hg.deg
  have htwo := two_lab hg
  unfold V_s_elNode_k1
  refine LD_iiss hb1 ?_
  refine call (elTabled_ok (h.ext hE) hg) ?_
  rintro x y z u g w5 ⟨rfl, rfl, rfl, rfl, hE5, hT5⟩
  refine NEW_ST (one5p _ _ _ _ _) rfl fun px5 w7 hp5 hE7 hb5 => ?_
  intro w8 hE8 _
  have hE48 := hE5.trans (hE7.trans hE8)
  have hE08 := hE.trans hE48
  have hT := hT5.ext (hE7.trans hE8)
  replace h := h.ext hE08
  replace hb1 := hb1.ext hE48
  replace hb2 := hb2.ext hE48
  replace hb5 := hb5.ext hE8
  have en : p.labels = ((p.labels.toNat : Nat) : Int) := by omega
  have e1 : IntKind.i64.wrap (shlI .i64 1 p.labels - 1) = ((2 ^ p.labels.toNat - 1 : Nat) : Int) := by
    rw [en, shl_one (by omega), Int.toNat_natCast]
    have := Nat.two_pow_pos p.labels.toNat
    generalize 2 ^ p.labels.toNat = q at htwo this ⊢
    rw [wrap_of (by omega) (by omega)]; omega
  have e2 : IntKind.i64.wrap (p.degree - 1) = ((p.degree.toNat - 1 : Nat) : Int) := by rw [wrap_of (by omega) (by omega)]; omega
  have hms := reChoices_ok w8 (n := 2 ^ p.labels.toNat - 1) (k := p.degree.toNat - 1) (by omega) (by omega) fun j hj => Nat.le_trans (pow_sets hg hf j hj) (by omega)
  have h64 : ∀ r ∈ msets (2 ^ p.labels.toNat - 1) (p.degree.toNat - 1), ∀ x ∈ r, I64 x := fun r hr x hx => by have := (mem_msets.1 hr).labs x hx; unfold I64; omega
  refine LD_bi0 hb1 ⟨by omega, LD_bi1 hb1 ?_⟩
  rw [e1, e2]
  refine call hms ?_
  rintro x w9 ⟨hE9, ssM, hRM⟩
  have hR := hRM.rep h64
  refine ⟨hE9, hE9, ?_⟩
  replace hE08 := hE08.ext hE9
  replace h := h.ext hE9
  replace hb1 := hb1.ext hE9
  replace hb2 := hb2.ext hE9
  replace hb5 := hb5.ext hE9
  replace hT := hT.ext hE9
  have hml := Nat.le_trans (msets_len (2 ^ p.labels.toNat - 1) (p.degree.toNat - 1)) (pow_sets hg hf _ (Nat.le_refl _))
  rw [hR.len]
  generalize hM : msets (2 ^ p.labels.toNat - 1) (p.degree.toNat - 1) = M at *
  have hMm : ∀ r ∈ M, InM (2 ^ p.labels.toNat - 1) (p.degree.toNat - 1) r := fun r hr => mem_msets.1 (by rw [hM]; exact hr)
  have hmem : ∀ l, l ∈ fullsS p M ↔ l ∈ nodeFull p := fun l => by rw [← hM]; exact fullsS_mem (by omega)
  refine ⟨IN2 M.length fun i (out : Sl) w' => Ext w9 w' ∧ ∃ ss, RowsD w' w9.heap.size T.t_int T.t_sl_int out (fullsS p (M.take i)) ss, MN2 M.length, IN2_zero ⟨Ext.refl _, [], by simpa [fullsS] using RowsD.nil _ _ _ _⟩, ?_⟩
  rintro out _ w10 ⟨i, rfl, hi, hE10, ss, hS10⟩
  intros
  refine cond_dec (fun hlt => ?_) (fun hge => ?_)
  · have hi' : i < M.length := by omega
    have hMi := hMm _ (List.getElem_mem hi')
    refine (hR.ext hE10).ixL hi' fun q row hrow hc => LD_sl hc ?_
    have hMl := hMi.len
    rw [hrow.len]
    let c1 : List Int := M[i].map (· + 1)
    have hc1v : ∀ x ∈ c1, ∃ m : Nat, x = m ∧ m < 2 ^ p.labels.toNat := fun x hx => by
      obtain ⟨z, hz, rfl⟩ := List.mem_map.1 hx
      have := hMi.labs z hz
      exact ⟨(z + 1).toNat, by omega, by omega⟩
    have hone : ∀ {q : Bool}, gF p M[i] = q → fullsS p [M[i]] = bif q then [c1 ++ [complM p c1]] else [] := fun {q} hq => by
      unfold fullsS
      rw [List.filter_cons, hq]
      cases q <;> rfl
    have hskip : ∀ {w' : World}, Ext w10 w' → gF p M[i] = false → V_s_elNode_k5 (IN2 M.length fun i (out : Sl) w' => Ext w9 w' ∧ ∃ ss, RowsD w' w9.heap.size T.t_int T.t_sl_int out (fullsS p (M.take i)) ss) (MN2 M.length) out (i : Int) w10 out w' := fun {w'} hE' hq => by
      unfold V_s_elNode_k5
      refine IN2_next hR.le hi' ⟨hE10.trans hE', ss, ?_⟩
      rw [fullsS_take hi', hone hq]
      simpa using hS10.ext hE'
    have hml2 : ∀ j, j ≤ M[i].length → ((M[i].take j).map (· + 1)).length = j := fun j hj => by rw [List.length_map, List.length_take]; omega
    refine ⟨IN2 M[i].length fun j (o : Sl) w' => OwnL w' w10.heap.size T.t_int o ((M[i].take j).map (· + 1)) ∧ Ext w10 w', MN2 M[i].length, IN2_zero ⟨OwnL.nil _ _ _, Ext.refl _⟩, ?_⟩
    rintro o _ w11 ⟨j, rfl, hj, hO11, hE11⟩
    intros
    have hrow11 := hrow.ext hE11
    have hz11 := hE11.size_le
    have hj2 := hml2 j hj
    refine cond_dec (fun hlt2 => ?_) (fun hge2 => ?_)
    · have hj' : j < M[i].length := by omega
      have hmj := hMi.labs _ (List.getElem_mem hj')
      refine hrow11.ixI hj' fun q _ hc => LD_int hc ?_
      rw [wrap_of (n := M[i][j] + 1) (by omega) (by omega)]
      refine RUN_lit1 (α := Int) slt_int _ rfl (by decide) fun y w12 hE12 hO12 => ?_
      have hO112 := hO11.ext hE12
      refine RUN_append (α := Int) slt_int hO112 (by have := hE12.size_le; omega) (hO12.rep (by intro x hx; rw [List.mem_singleton.1 hx]; show I64 _; unfold I64; omega)).any (by simp; omega) (by simp [maxLen]; omega) fun o' w13 hO13 hs13 => ?_
      refine IN2_next hrow11.le hj' ⟨?_, hs13.ext0 (hE11.trans hE12) fun k hk => (hO112.blk k hk).1⟩
      rw [map_take_succ hj']
      exact hO13
    · have : j = M[i].length := by omega
      subst this
      rw [List.take_length] at hO11
      have hc164 : ∀ x ∈ c1, I64 x := fun x hx => by obtain ⟨m, rfl, hm⟩ := hc1v x hx; unfold I64; omega
      have hc1l : c1.length = p.degree.toNat - 1 := by show (M[i].map (· + 1)).length = _; rw [List.length_map, hMl]
      have hE911 := hE10.trans hE11
      refine LD_iisss (hb5.ext hE911) ?_
      refine call (restM_ok hg (hT.ext hE911) (hO11.rep hc164).any hc1l hc1v) ?_
      rintro _ w14 ⟨rfl, hE14⟩
      have hE1014 := hE11.trans hE14
      have hclt := complM_lt p c1
      have hcI : I64 (complM p c1) := by unfold I64; omega
      have hol : o.len = c1.length := hO11.1
      rw [hol]
      refine cond_eq (fun h0 => hskip hE1014 ?_) (fun hne => ?_)
      · have h0' : complM p (M[i].map (· + 1)) = 0 := h0
        simp [gF, h0']
      · have hne' : complM p (M[i].map (· + 1)) ≠ 0 := hne
        have hk9 : (c1.all fun x => decide (x ≤ complM p c1)) = true → V_s_elNode_k9 (IN2 M.length fun i (out : Sl) w' => Ext w9 w' ∧ ∃ ss, RowsD w' w9.heap.size T.t_int T.t_sl_int out (fullsS p (M.take i)) ss) (MN2 M.length) (i : Int) w10 px5 out o (complM p c1) w14 := fun hall => by
          unfold V_s_elNode_k9
          refine RUN_lit1 (α := Int) slt_int _ rfl (by decide) fun y w15 hE15 hO15 => ?_
          have hO1115 := (hO11.ext hE14).ext hE15
          have hz14 := hE14.size_le
          have hz15 := hE15.size_le
          refine RUN_append (α := Int) slt_int hO1115 (by omega) (hO15.rep (by intro x hx; rw [List.mem_singleton.1 hx]; exact hcI)).any (by simp; omega) (by simp [maxLen]; omega) fun o2 w16 hO16 hs16 => ?_
          have hE1016 : Ext w10 w16 := hs16.ext0 (hE1014.trans hE15) fun k hk => (hO1115.blk k hk).1
          have hc2v : ∀ x ∈ c1 ++ [complM p c1], ∃ m : Nat, x = m ∧ m < 2 ^ p.labels.toNat := fun x hx => by
            rcases List.mem_append.1 hx with h1 | h1
            · exact hc1v x h1
            · rw [List.mem_singleton.1 h1]; exact ⟨(complM p c1).toNat, by omega, by omega⟩
          have hc264 : ∀ x ∈ c1 ++ [complM p c1], I64 x := fun x hx => by obtain ⟨m, rfl, hm⟩ := hc2v x hx; unfold I64; omega
          have hc2l : (c1 ++ [complM p c1]).length = p.degree.toNat := by rw [List.length_append, hc1l]; simp; omega
          have hE916 := hE10.trans hE1016
          refine LD_iisss (hb5.ext hE916) ?_
          refine call (full_ok hg (hT.ext hE916) (hO16.rep hc264).any hc2l hc2v) ?_
          rintro _ w17 ⟨rfl, hE17⟩
          have hE1017 := hE1016.trans hE17
          have hgF : gF p M[i] = fullB p (c1 ++ [complM p c1]) := by
            have hall' : ((M[i].map (· + 1)).all fun x => decide (x ≤ complM p (M[i].map (· + 1)))) = true := hall
            unfold gF
            rw [hall', decide_eq_true hne']
            rfl
          refine cond_b (fun ht => ?_) (fun hff => hskip hE1017 (by rw [hgF, hff]))
          refine RUN_lit1 (α := Sl) slt_rows o2 rfl (by decide) fun y2 w18 hE18 hO18 => ?_
          have hE1018 := hE1017.trans hE18
          have hS18 := hS10.ext hE1018
          have hz10 := hE10.size_le
          have hz18 := hE1018.size_le
          have hfl := fullsS_len (p := p) (M.take i)
          have htl : (M.take i).length ≤ i := by rw [List.length_take]; omega
          have hO17 := (hO16.ext hE17).ext hE18
          refine RUN_append_rowD slt_rows (by decide) hS18 (by omega) (hO17.low hz10) (hS10.fresh hO17 (Nat.le_refl _)) hO18 (by omega) (by unfold maxLen; omega) fun s' w19 hS19 hs19 => ?_
          unfold V_s_elNode_k5
          refine IN2_next hR.le hi' ⟨hs19.ext0 (hE10.trans hE1018) fun k hk => (hS18.own.blk k hk).1, ss ++ [o2], ?_⟩
          rw [fullsS_take hi', hone (q := true) (by rw [hgF, ht])]
          exact hS19
        refine cond_dec (fun hpos => ?_) (fun hz => hk9 (by
          have : c1 = [] := List.eq_nil_of_length_eq_zero (by omega)
          rw [this]; rfl))
        have e3 : IntKind.i64.wrap ((c1.length : Int) - 1) = ((c1.length - 1 : Nat) : Int) := by rw [wrap_of (by omega) (by omega)]; omega
        rw [e3]
        have hlm := last_max hMi (v := complM p c1) (by omega)
        refine ((hO11.rep hc164).any.ext hE14).ixI (i := c1.length - 1) (by show c1.length - 1 < c1.length; omega) fun q _ hc => LD_int hc ?_
        refine cond_dec (fun hlt3 => hskip hE1014 ?_) (fun hge3 => hk9 ?_)
        · have h1 : ((M[i].map (· + 1)).all fun x => decide (x ≤ complM p (M[i].map (· + 1)))) = false := by
            have := hlm
            rw [decide_eq_true hlt3] at this
            exact this
          unfold gF
          rw [h1]; simp
        · rw [decide_eq_false hge3] at hlm
          exact hlm
  · have : i = M.length := by omega
    subst this
    rw [List.take_length] at hS10
    have hBA := byte_congr hmem (node_byte hg)
    have h64A : ∀ r ∈ fullsS p M, ∀ x ∈ r, I64 x := fun r hr x hx => by obtain ⟨m, rfl, hm⟩ := hBA r hr x hx; unfold I64; omega
    have hfl := fullsS_len (p := p) M
    replace hE08 := hE08.ext hE10
    replace h := h.ext hE10
    replace hb1 := hb1.ext hE10
    replace hb2 := hb2.ext hE10
    refine LD_iiss hb1 ?_
    refine call (elMade_ok (k := p.degree.toNat) false h hg (hS10.rep h64A) hBA (fun r hr => node_len r ((hmem r).1 hr)) (by omega) (by omega)) ?_
    rintro x y z u a b w11 hst
    have hmp : madeP p false (fullsS p M) p.degree.toNat = nodeP p := by
      rw [← made_node]
      unfold madeP
      rw [setsOf_congr hmem, ownOf_congr hmem]
    rw [hmp, setsOf_congr hmem] at hst
    have hst' : StIs w10 (nodeP p) (ndFew p) (nodeSets p) x y z u a b w11 := ⟨hst.1, by
      rcases hst.2 with ⟨r1, r2, r3⟩ | ⟨r1, r2⟩
      · exact .inl ⟨r1, ⟨hf, r2⟩, r3⟩
      · exact .inr ⟨r1, fun hA => r2 hA.2⟩⟩
    have hlt2 := hb2.lt
    exact StIs.through hst' hE08 (hb2.ext hst.1) hp2 (by omega) fun w' h => h

theorem elNode_ok {w : World} {c d : Sl} {p : Prob} (h : RProb w c d p) (hg : PGood p) :
    Calls Tryz.prog F.s_elNode #[.agg #[.int .i64 p.labels, .int .i64 p.degree, c.v, d.v]] w (Ret [.agg [.int .i64, .int .i64, .sl, .sl], .at .sl, .at .bool] (StIs w (nodeP p) (ndFew p) (nodeSets p))) := by
  refine C_s_elNode ?_
  unfold V_s_elNode
  refine NEW_intro fun pp w1 hp1 hs1 hE1 hb1 => NEW_intro fun px w2 hp2 hs2 hE2 hb2 => LD_bi1 (hb1.ext hE2) ?_
  have hE := hE1.trans hE2
  have hz1 := hE1.size_le
  replace hb1 := hb1.ext hE2
  have hgo : ¬ (p.degree = 4 ∧ 6 < p.labels) → V_s_elNode_k1 (StIs w (nodeP p) (ndFew p) (nodeSets p)) pp px w2 := fun hfit => elNode_k1_ok hg hfit h hE hb1 hb2 (by omega)
  refine cond_eq (fun h4 => LD_bi0 hb1 (cond_dec (fun h6 => ?_) (fun h6 => hgo fun hh => h6 hh.2))) (fun h4 => hgo fun hh => h4 hh.1)
  exact zero_problem hE hb2 (by omega) fun w' hE' => ⟨hE', .inr ⟨rfl, fun hfew => hfew.1 ⟨h4, h6⟩⟩⟩

end Go.Proofs.YtndebacmnpghkaaGreat
end

section
/- slices.SortStableFunc at []int, for lists of numbers: the pieces of its code (swaps, rotations, insertion, merging) and what they bring about. -/
namespace Go.Proofs.YtndebacmnpghkaaGreat
open Go.GX Go.RowKit
set_option maxRecDepth 100000

/-! ### Places and swaps -/

def gt (l : List Int) (i : Nat) : Int := l.getD i 0
theorem gt_get {l : List Int} {i : Nat} (h : i < l.length) : gt l i = l[i] := by simp [gt, h]
def swp (l : List Int) (p q : Nat) : List Int := (l.set q (gt l p)).set p (gt l q)

theorem swp_perm {l : List Int} {p q : Nat} (hp : p < l.length) (hq : q < l.length) : (swp l p q).Perm l := by
  have := List.set_set_perm hq hp
  unfold swp
  rw [gt_get hp, gt_get hq]
  exact this

/-- The list that is being sorted: in memory, changed in its own block alone, a permutation of the first one. -/
structure Sd (w0 : World) (base : Nat) (s : Sl) (l0 : List Int) (w : World) (l : List Int) : Prop where
  own : OwnL w base T.t_int s l
  chg : Chg w0 w (oB s)
  perm : l.Perm l0

section
variable {w0 w w' : World} {base : Nat} {s : Sl} {l0 l : List Int} {cmp : Value} {key : Int → Int}

theorem Sd.ext (h : Sd w0 base s l0 w l) (hE : Ext w w') : Sd w0 base s l0 w' l := ⟨h.own.ext hE, h.chg.trans (.of_ext hE), h.perm⟩
theorem Sd.len (h : Sd w0 base s l0 w l) : l.length = l0.length := h.perm.length_eq
theorem Sd.mem (h : Sd w0 base s l0 w l) {i : Nat} (hi : i < l0.length) : gt l i ∈ l0 := by
  have hi' : i < l.length := by rw [h.len]; exact hi
  rw [gt_get hi']
  exact h.perm.mem_iff.1 (List.getElem_mem hi')
theorem Sd.rep (h : Sd w0 base s l0 w l) (hI : ∀ x ∈ l0, I64 x) : R w s l := (h.own.rep fun x hx => hI x (h.perm.mem_iff.1 hx)).any
theorem Sd.ix (h : Sd w0 base s l0 w l) (hI : ∀ x ∈ l0, I64 x) {i : Nat} (hi : i < l0.length) {K : Addr → Prop} (hk : ∀ p, w.cell? p = some (.int .i64 (gt l i)) → K p) : IX s i 1 K := by
  have hi' : i < l.length := by rw [h.len]; exact hi
  refine (h.rep hI).ixI hi' fun p _ hc => hk p ?_
  rw [gt_get hi']; exact hc

theorem Sd.swap (h : Sd w0 base s l0 w l) (hI : ∀ x ∈ l0, I64 x) {p q : Nat} (hp : p < l0.length) (hq : q < l0.length) {K : World → Prop} (hk : ∀ w', Sd w0 base s l0 w' (swp l p q) → K w') :
    ∃ D : Nat → Prop, IX s p 1 fun a1 => IX s q 1 fun a2 => ¬ D a1.block ∧ (LD [.int .i64] a1 w fun x => LD [.int .i64] a2 w fun y => Chg w w D ∧ (IX s q 1 fun a3 => GX.ST a3 0 [.int .i64 x] w fun w9 => IX s p 1 fun a4 => GX.ST a4 0 [.int .i64 y] w9 K)) := by
  have hp' : p < l.length := by rw [h.len]; exact hp
  have hq' : q < l.length := by rw [h.len]; exact hq
  refine ⟨fun _ => False, h.ix hI hp fun a1 hc1 => h.ix hI hq fun a2 hc2 => ⟨not_false, LD_int hc1 (LD_int hc2 ⟨Chg.refl _ _, ?_⟩)⟩⟩
  refine IX_own h.own hq' rfl fun p1 hp1 => ST_own h.own hq' hp1 (gt l p) rfl fun w1 hO1 hs1 => ?_
  refine IX_own hO1 (by simpa using hp') rfl fun p2 hp2 => ST_own hO1 (by simpa using hp') hp2 (gt l q) rfl fun w2 hO2 hs2 => ?_
  exact hk w2 ⟨hO2, h.chg.trans ((Chg.of_step hs1 fun k hk => hk).trans (.of_step hs2 fun k hk => hk)), (swp_perm hp' hq').trans h.perm⟩

/-! ### Ranges swapped and rotated -/

/-! ### Order -/

def ltK (key : Int → Int) (x y : Int) : Prop := key x < key y ∨ (key x = key y ∧ x < y)
theorem ltK.trans {key : Int → Int} {x y z : Int} (h : ltK key x y) (k : ltK key y z) : ltK key x z := by
  unfold ltK at *; omega
theorem ltK.le {key : Int → Int} {x y : Int} (h : ltK key x y) : key x ≤ key y := by unfold ltK at h; omega

/-- Sorted between two places. -/
def SIn (key : Int → Int) (l : List Int) (a b : Nat) : Prop := ∀ i j, a ≤ i → i < j → j < b → ltK key (gt l i) (gt l j)
/-- What lies between two places lay there before. -/
def SubIn (l l' : List Int) (a b : Nat) : Prop := ∀ i, a ≤ i → i < b → ∃ j, a ≤ j ∧ j < b ∧ gt l' i = gt l j
def SameOut (l l' : List Int) (a b : Nat) : Prop := ∀ i, (i < a ∨ b ≤ i) → gt l' i = gt l i

theorem SubIn.refl (l : List Int) (a b : Nat) : SubIn l l a b := fun i h1 h2 => ⟨i, h1, h2, rfl⟩
theorem SubIn.trans {l l' l'' : List Int} {a b : Nat} (h : SubIn l l' a b) (k : SubIn l' l'' a b) : SubIn l l'' a b := fun i h1 h2 => by
  obtain ⟨j, h3, h4, h5⟩ := k i h1 h2
  obtain ⟨m, h6, h7, h8⟩ := h j h3 h4
  exact ⟨m, h6, h7, h5.trans h8⟩
theorem SubIn.wide {l l' : List Int} {a b a' b' : Nat} (h : SubIn l l' a b) (ho : SameOut l l' a b) (ha : a' ≤ a) (hb : b ≤ b') : SubIn l l' a' b' := fun i h1 h2 => by
  by_cases hi : a ≤ i ∧ i < b
  · obtain ⟨j, h3, h4, h5⟩ := h i hi.1 hi.2
    exact ⟨j, by omega, by omega, h5⟩
  · exact ⟨i, h1, h2, ho i (by omega)⟩
theorem SameOut.wide {l l' : List Int} {a b a' b' : Nat} (h : SameOut l l' a b) (ha : a' ≤ a) (hb : b ≤ b') : SameOut l l' a' b' := fun i hi => h i (by omega)
theorem SameOut.trans {l l' l'' : List Int} {a b : Nat} (h : SameOut l l' a b) (k : SameOut l' l'' a b) : SameOut l l'' a b := fun i hi => (k i hi).trans (h i hi)

/-- While a number sinks to its place: it lies at place j; the others are sorted; those behind it are greater. -/
structure Sink (key : Int → Int) (l l' : List Int) (a i j : Nat) (x : Int) : Prop where
  at_ : gt l' j = x
  sorted : ∀ p q, a ≤ p → p < q → q ≤ i → p ≠ j → q ≠ j → ltK key (gt l' p) (gt l' q)
  behind : ∀ q, j < q → q ≤ i → ltK key x (gt l' q)
  sub : ∀ p, a ≤ p → p ≤ i → p ≠ j → ∃ m, a ≤ m ∧ m < i ∧ gt l' p = gt l m
  out : ∀ p, (p < a ∨ i < p) → gt l' p = gt l p

/-! ### Merging -/

/-- What is known when the place of the cut is found. -/
structure Cut (key : Int → Int) (l : List Int) (a m b c e : Nat) : Prop where
  ac : a ≤ c
  cm : c ≤ m
  me : m ≤ e
  eb : e ≤ b
  low : ∀ p q, a ≤ p → p < c → e ≤ q → q < b → ltK key (gt l p) (gt l q)
  high : ∀ p q, m ≤ p → p < e → c ≤ q → q < m → key (gt l p) < key (gt l q)

/-- What the rotation leaves: two pairs of sorted ranges, and all of the first pair before all of the second. -/
structure Mid (key : Int → Int) (l l1 : List Int) (a b c e d : Nat) : Prop where
  s11 : SIn key l1 a c
  s12 : SIn key l1 c d
  s21 : SIn key l1 d e
  s22 : SIn key l1 e b
  n1 : ∀ i j, a ≤ i → i < c → c ≤ j → j < d → gt l1 i < gt l1 j
  n2 : ∀ i j, d ≤ i → i < e → e ≤ j → j < b → gt l1 i < gt l1 j
  cross : ∀ p q, a ≤ p → p < d → d ≤ q → q < b → ltK key (gt l1 p) (gt l1 q)
  sub : SubIn l l1 a b
  out : SameOut l l1 a b

/-- Behind the first phase: two blocks at most. -/
def Two (key : Int → Int) (l0 l : List Int) : Prop := (l0.length ≤ 20 → SIn key l 0 l0.length) ∧ (20 < l0.length → SIn key l 0 20 ∧ SIn key l 20 l0.length ∧ SubIn l0 l 0 20 ∧ SubIn l0 l 20 l0.length)

theorem SIn.pairwise {l : List Int} (h : SIn key l 0 l.length) : l.Pairwise (ltK key) := by
  rw [List.pairwise_iff_getElem]
  intro i j hi hj hij
  have := h i j (by omega) hij hj
  rwa [gt_get hi, gt_get hj] at this

end


end Go.Proofs.YtndebacmnpghkaaGreat
end

section
/- Distances in a network, and the search that finds them, in plain words: no program in sight. -/
namespace Go.Proofs.YtndebacmnpghkaaGreat

/-- A walk of k steps from v to x. -/
def Reach (E : Ends) (v : Nat) : Nat → Nat → Prop
  | 0, x => x = v
  | k + 1, x => ∃ y, Reach E v k y ∧ (x : Int) ∈ adjOf E y

/-- The list of all distances from v: -1 where no walk leads. -/
structure Dists (E : Ends) (v : Nat) (D : List Int) : Prop where
  len : D.length = E.length
  low : ∀ u, -1 ≤ D.getD u (-1)
  sound : ∀ u d : Nat, D.getD u (-1) = d → Reach E v d u
  least : ∀ k x, Reach E v k x → 0 ≤ D.getD x (-1) ∧ D.getD x (-1) ≤ k

theorem Dists.eq {E : Ends} {v : Nat} {D D' : List Int} (h : Dists E v D) (h' : Dists E v D') : D = D' := by
  have key : ∀ {A B : List Int}, Dists E v A → Dists E v B → ∀ u, 0 ≤ A.getD u (-1) → 0 ≤ B.getD u (-1) ∧ B.getD u (-1) ≤ A.getD u (-1) := by
    intro A B hA hB u hu
    obtain ⟨d, hd⟩ := Int.eq_ofNat_of_zero_le hu
    have := hB.least d u (hA.sound u d hd)
    rw [hd]
    exact this
  apply List.ext_getElem (by rw [h.len, h'.len])
  intro i h1 h2
  have e1 : D.getD i (-1) = D[i] := by simp [h1]
  have e2 : D'.getD i (-1) = D'[i] := by simp [h2]
  rw [← e1, ← e2]
  have l1 := h.low i
  have l2 := h'.low i
  by_cases hu : 0 ≤ D.getD i (-1)
  · have k1 := key h h' i hu
    have k2 := key h' h i k1.1
    omega
  · by_cases hu' : 0 ≤ D'.getD i (-1)
    · have k2 := key h' h i hu'
      omega
    · omega

/-- The distance of the queue's i-th node. -/
def dv (D W : List Int) (i : Nat) : Int := D.getD (W.getD i 0).toNat (-1)

/-- The search's state: the nodes found so far, in order; their distances; how many have been looked at. -/
structure Bfs (E : Ends) (v : Nat) (W D : List Int) (k : Nat) : Prop where
  len : D.length = E.length
  le : k ≤ W.length
  nodes : ∀ x ∈ W, ∃ u : Nat, x = u ∧ u < E.length
  nodup : W.Nodup
  mem : ∀ u : Nat, u < E.length → ((u : Int) ∈ W ↔ 0 ≤ D.getD u (-1))
  root : (v : Int) ∈ W
  zero : D.getD v (-1) = 0
  low : ∀ u, -1 ≤ D.getD u (-1)
  sound : ∀ u d : Nat, D.getD u (-1) = d → Reach E v d u
  mono : ∀ i j, i ≤ j → j < W.length → dv D W i ≤ dv D W j
  cap : k < W.length → ∀ j < W.length, dv D W j ≤ dv D W k + 1
  done : ∀ i < k, ∀ u : Nat, (u : Int) ∈ adjOf E (W.getD i 0).toNat → 0 ≤ D.getD u (-1) ∧ D.getD u (-1) ≤ dv D W i + 1
  small : ∀ u, D.getD u (-1) < W.length

theorem getD_set {D : List Int} {y : Nat} (hy : y < D.length) (x : Int) (u : Nat) : (D.set y x).getD u (-1) = if u = y then x else D.getD u (-1) := by
  by_cases h : u = y
  · subst h; simp [hy]
  · simp [h, List.getElem?_set_ne (Ne.symm h)]

section
variable {E : Ends} {v k : Nat} {W D : List Int}

theorem Bfs.node (h : Bfs E v W D k) {i : Nat} (hi : i < W.length) : ∃ u : Nat, W[i] = u ∧ W.getD i 0 = u ∧ u < E.length ∧ 0 ≤ D.getD u (-1) ∧ dv D W i = D.getD u (-1) := by
  obtain ⟨u, hu, hul⟩ := h.nodes W[i] (List.getElem_mem hi)
  have hg : W.getD i 0 = u := by simp [hi, hu]
  refine ⟨u, hu, hg, hul, (h.mem u hul).1 (by rw [← hu]; exact List.getElem_mem hi), ?_⟩
  unfold dv
  rw [hg]
  simp

/-- A neighbour that is found now. -/
theorem Bfs.add (h : Bfs E v W D k) (hk : k < W.length) {y : Nat} (hy : y < E.length) (ha : (y : Int) ∈ adjOf E (W.getD k 0).toNat) (hn : D.getD y (-1) < 0) :
    Bfs E v (W ++ [(y : Int)]) (D.set y (dv D W k + 1)) k := by
  have hyD : y < D.length := by rw [h.len]; exact hy
  have hg := getD_set hyD (dv D W k + 1)
  obtain ⟨c, _, hck, hcl, hc0, hcd⟩ := h.node hk
  have hdk : 0 ≤ dv D W k := by omega
  have hold : ∀ i, i < W.length → (W ++ [(y : Int)]).getD i 0 = W.getD i 0 := by
    intro i hi
    simp [List.getElem?_append_left hi]
  have hnew : (W ++ [(y : Int)]).getD W.length 0 = y := by simp
  have hdo : ∀ i, i < W.length → dv (D.set y (dv D W k + 1)) (W ++ [(y : Int)]) i = dv D W i := by
    intro i hi
    obtain ⟨u, _, hu, _, hu0, hud⟩ := h.node hi
    show (D.set y (dv D W k + 1)).getD ((W ++ [(y : Int)]).getD i 0).toNat (-1) = D.getD (W.getD i 0).toNat (-1)
    rw [hold i hi, hu, hg]
    simp only [Int.toNat_natCast]
    rw [if_neg (fun he => by subst he; omega)]
  have hdn : dv (D.set y (dv D W k + 1)) (W ++ [(y : Int)]) W.length = dv D W k + 1 := by
    show (D.set y (dv D W k + 1)).getD ((W ++ [(y : Int)]).getD W.length 0).toNat (-1) = _
    rw [hnew, hg]; simp
  have hyW : (y : Int) ∉ W := fun hm => by have := (h.mem y hy).1 hm; omega
  refine ⟨by simp [h.len], by have := h.le; simp; omega, ?_, ?_, ?_, by simp [h.root], ?_, ?_, ?_, ?_, ?_, ?_, ?_⟩
  · intro x hx
    rcases List.mem_append.1 hx with h1 | h1
    · exact h.nodes x h1
    · exact ⟨y, by simpa using h1, hy⟩
  · rw [List.nodup_append]
    refine ⟨h.nodup, by simp, fun a ha b hb hab => ?_⟩
    rw [List.mem_singleton.1 hb] at hab
    subst hab
    exact hyW ha
  · intro u hu
    rw [hg, List.mem_append, h.mem u hu]
    by_cases he : u = y
    · subst he; simp; omega
    · simp [he]
      omega
  · rw [hg]
    have := h.zero
    rw [if_neg (fun he => by subst he; omega)]
    exact h.zero
  · intro u
    rw [hg]
    split
    · omega
    · exact h.low u
  · intro u d hd
    rw [hg] at hd
    split at hd
    · rename_i he
      subst he
      obtain ⟨e, he⟩ := Int.eq_ofNat_of_zero_le hdk
      obtain rfl : d = e + 1 := by omega
      refine ⟨c, h.sound c e (by rw [← hcd]; exact he), ?_⟩
      rw [hck] at ha
      simpa using ha
    · exact h.sound u d hd
  · intro i j hij hj
    simp at hj
    rcases Nat.lt_or_eq_of_le (Nat.le_of_lt_succ hj) with h1 | h1
    · rw [hdo i (by omega), hdo j h1]; exact h.mono i j hij h1
    · subst h1
      rw [hdn]
      rcases Nat.lt_or_eq_of_le hij with h2 | h2
      · rw [hdo i h2]; exact h.cap hk i h2
      · subst h2; rw [hdn]; exact Int.le_refl _
  · intro _ j hj
    simp at hj
    rw [hdo k hk]
    rcases Nat.lt_or_eq_of_le (Nat.le_of_lt_succ hj) with h1 | h1
    · rw [hdo j h1]; exact h.cap hk j h1
    · subst h1; rw [hdn]; exact Int.le_refl _
  · intro i hi u hu
    rw [hold i (by omega)] at hu
    have := h.done i hi u hu
    rw [hdo i (by omega), hg]
    rw [if_neg (fun he => by subst he; omega)]
    exact this
  · intro u
    rw [hg]
    have h1 := h.small u
    have h2 := h.small c
    simp only [List.length_append, List.length_singleton]
    push_cast
    split <;> omega

/-- All neighbours have been looked at. -/
theorem Bfs.next (h : Bfs E v W D k) (hk : k < W.length) (ha : ∀ u : Nat, (u : Int) ∈ adjOf E (W.getD k 0).toNat → 0 ≤ D.getD u (-1) ∧ D.getD u (-1) ≤ dv D W k + 1) : Bfs E v W D (k + 1) :=
  { h with
    le := hk
    cap := fun hk' j hj => by
      have h1 := h.cap hk j hj
      have h2 := h.mono k (k + 1) (by omega) hk'
      omega
    done := fun i hi u hu => by
      rcases Nat.lt_or_eq_of_le (Nat.le_of_lt_succ hi) with h1 | h1
      · exact h.done i h1 u hu
      · subst h1; exact ha u hu }

theorem adj_lt {y x : Nat} (h : (x : Int) ∈ adjOf E y) : y < E.length := by
  by_cases hy : y < E.length
  · exact hy
  · unfold adjOf rowOf at h
    simp [hy] at h

theorem Bfs.end (h : Bfs E v W D W.length) : Dists E v D := by
  refine ⟨h.len, h.low, h.sound, ?_⟩
  intro j
  induction j with
  | zero =>
    intro x hx
    have hx' : x = v := hx
    subst hx'
    rw [h.zero]
    exact ⟨by omega, by omega⟩
  | succ j ih =>
    rintro x ⟨y, hy, hx⟩
    have hyl := adj_lt hx
    obtain ⟨h0, h1⟩ := ih y hy
    obtain ⟨i, hi, hiy⟩ := List.mem_iff_getElem.1 ((h.mem y hyl).2 h0)
    obtain ⟨u, hu, hug, _, _, hd⟩ := h.node hi
    obtain rfl : u = y := by rw [hiy] at hu; omega
    have := h.done i hi x (by rw [hug]; simpa using hx)
    rw [hd] at this
    refine ⟨this.1, ?_⟩
    have h2 := this.2
    push_cast
    omega

theorem nodup_length : ∀ (n : Nat) (l : List Nat), l.Nodup → (∀ x ∈ l, x < n) → l.length ≤ n
  | 0, l, _, h => by
    cases l with
    | nil => simp
    | cons x r => exact absurd (h x (by simp)) (by omega)
  | n + 1, l, hd, h => by
    have h1 := nodup_length n (l.erase n) (hd.erase n) (fun x hx => by
      have hm := (hd.mem_erase_iff).1 hx
      have := h x hm.2
      omega)
    have h2 : l.length ≤ (l.erase n).length + 1 := by
      rw [List.length_erase]
      split <;> omega
    omega

theorem Bfs.size (h : Bfs E v W D k) : W.length ≤ E.length := by
  have := nodup_length E.length (W.map Int.toNat) (by
    rw [List.nodup_iff_pairwise_ne, List.pairwise_map]
    refine (List.nodup_iff_pairwise_ne.1 h.nodup).imp_of_mem ?_
    intro a b ha hb hab he
    obtain ⟨x, rfl, _⟩ := h.nodes a ha
    obtain ⟨y, rfl, _⟩ := h.nodes b hb
    simp at he
    exact hab (by omega)) (by
    intro x hx
    obtain ⟨a, ha, rfl⟩ := List.mem_map.1 hx
    obtain ⟨u, rfl, hu⟩ := h.nodes a ha
    simpa using hu)
  simpa using this
end

end Go.Proofs.YtndebacmnpghkaaGreat
end

section
/- The reference's distances from a node. -/
namespace Go.Proofs.YtndebacmnpghkaaGreat
open Go.GX Go.RowKit
set_option maxRecDepth 100000

/-- What the search keeps in memory: distances, queue, apart from each other. -/
structure BfsMem (w1 w' : World) (b1 b2 : Nat) (E : Ends) (v : Nat) (sD sW : Sl) (D W : List Int) (k : Nat) : Prop where
  ext : Ext w1 w'
  dist : OwnL w' b1 T.t_int sD D
  queue : OwnL w' b2 T.t_int sW W
  bfs : Bfs E v W D k
  lo1 : w1.heap.size ≤ b1
  lo12 : b1 ≤ b2
  lo2 : b2 ≤ w'.heap.size
  sep : ∀ g, sD.v.ownBlock = some g → g < b2

theorem BfsMem.next {w1 w' w'' : World} {b1 b2 : Nat} {E : Ends} {v : Nat} {sD sW : Sl} {D W : List Int} {k : Nat} (h : BfsMem w1 w' b1 b2 E v sD sW D W k) (hE : Ext w' w'') : BfsMem w1 w'' b1 b2 E v sD sW D W k :=
  { h with ext := h.ext.trans hE, dist := h.dist.ext hE, queue := h.queue.ext hE, lo2 := Nat.le_trans h.lo2 hE.size_le }

end Go.Proofs.YtndebacmnpghkaaGreat
end

section
/- Dominating sets: both sides' tests. -/
namespace Go.Proofs.YtndebacmnpghkaaGreat
open Go.GX Go.RowKit
set_option maxRecDepth 100000

/-! ### The program's side -/

def upTo (n : Nat) : List Int := (List.range n).map fun (k : Nat) => (k : Int)

end Go.Proofs.YtndebacmnpghkaaGreat
end

section
/- Configuration maps, in plain words: no program in sight. -/
namespace Go.Proofs.YtndebacmnpghkaaGreat
open Go.GX

theorem EdgeIs.symm {p : Prob} {a b : Int} (h : EdgeIs p a b) : EdgeIs p b a := by
  unfold EdgeIs at h ⊢
  rw [sort2] at h ⊢
  by_cases h1 : a ≤ b
  · rw [if_pos h1] at h
    by_cases h2 : b ≤ a
    · have : a = b := by omega
      subst this
      rwa [if_pos h2]
    · rwa [if_neg h2]
  · rw [if_neg h1] at h
    rwa [if_pos (by omega)]

/-- The labels of configurations beside those of their rows. -/
def pairsOf (C R : List (List Int)) : List (Int × Int) := (C.zip R).flatMap fun u => u.1.zip u.2

structure CmOk (p q : Prob) (rows : List (List Int)) : Prop where
  len : rows.length = p.nodes.length
  row : ∀ r ∈ rows, (r.length : Int) = q.degree ∧ AllIn r 0 (q.labels - 1) ∧ NodeOk q r
  pairs : ∀ u ∈ pairsOf p.nodes rows, ∀ v ∈ pairsOf p.nodes rows, EdgeIs p u.1 v.1 → EdgeIs q u.2 v.2

/-! ### Places -/

structure McAsked (p q : Prob) (rows : List (List Int)) (n : Net) (L : List (List Int)) : Prop where
  left : PGood p
  right : PGood q
  deg : p.degree = q.degree
  map : CmOk p q rows
  good : Good n
  lab : LabOk p n.ends L
  clean : Clean p n.ends L
  full : ∀ r ∈ L, (r.length : Int) = p.degree

end Go.Proofs.YtndebacmnpghkaaGreat
end

section
/- Configuration maps, both sides. -/
namespace Go.Proofs.YtndebacmnpghkaaGreat
open Go.GX Go.RowKit
set_option maxRecDepth 100000

/-! ### Two slices of the call's own that lie apart -/

def Aside (s t : Sl) : Prop := ∀ k, s.v.ownBlock = some k → t.v.ownBlock ≠ some k

theorem Aside.symm {s t : Sl} (h : Aside s t) : Aside t s := fun k hk hk' => h k hk' hk

theorem Aside.new {w : World} {base : Nat} {s s' t : Sl} {l : List Int} (h : Aside s t) (ht : OwnL w base T.t_int t l) (hn : NewOr w s s') : Aside s' t := fun k hk hk' => by
  rcases hn with h1 | h1
  · exact h k (by rw [← h1]; exact hk) hk'
  · have h2 := h1 k hk
    have h3 := (ht.blk k hk').2
    omega

/-! ### Whether it is a configuration map: the program -/

/-! ### Whether it is a solution -/

end Go.Proofs.YtndebacmnpghkaaGreat
end

section
/- Solutions pulled back through the edge step, both sides. -/
namespace Go.Proofs.YtndebacmnpghkaaGreat
open Go.GX Go.RowKit
set_option maxRecDepth 100000

/-! ### In plain words -/

/-- What is known of a node's labels. -/
structure PullOk (p : Prob) (S r : List Int) : Prop where
  labs : ∀ x ∈ r, 0 ≤ x ∧ x < (S.length : Nat)
  len : r.length ≤ 1000
  some : (r.length : Int) = p.degree → (firstC (nodeB p) (listsAt S r) []).isSome = true

structure SetsOk (S : List Int) : Prop where
  pos : ∀ x ∈ S, ∃ m : Nat, x = m ∧ 1 ≤ m ∧ m < 256

theorem SetsOk.byte {S : List Int} (h : SetsOk S) : ∀ x ∈ S, ∃ m : Nat, x = m ∧ m < 256 := fun x hx => by
  obtain ⟨m, h1, _, h3⟩ := h.pos x hx
  exact ⟨m, h1, h3⟩

/-! ### The program -/

end Go.Proofs.YtndebacmnpghkaaGreat
end

section
/- Solutions pulled back through the edge step: the reference, and what is asked. -/
namespace Go.Proofs.YtndebacmnpghkaaGreat
open Go.GX Go.RowKit
set_option maxRecDepth 100000

/-- Slices that read as lists, apart from the slice that holds them. -/
def AlD (w : World) (s : Sl) (ss : List Sl) (L : List (List Int)) : Prop := ss.length = L.length ∧ ∀ i (h1 : i < ss.length) (h2 : i < L.length), SlR (fun b => ¬ oB s b) w ss[i] L[i]

theorem AlD.ext {w w' : World} {s : Sl} {ss : List Sl} {L : List (List Int)} (h : AlD w s ss L) (hE : Ext w w') : AlD w' s ss L := ⟨h.1, fun i h1 h2 => (h.2 i h1 h2).ext hE⟩

/-! ### What is asked -/

structure PeAsked (p : Prob) (n : Net) (L : List (List Int)) : Prop where
  good : edGood p
  net : Good n
  lab : LabOk (edgeP p) n.ends L
  clean : Clean (edgeP p) n.ends L

theorem edge_made {p : Prob} (h : edGood p) : PGood (edgeP p) := (EdAsked.mk h.1 h.2).made

theorem edge_small {p : Prob} (h : edGood p) : SmallP (edgeP p) := by
  have hd := h.1.deg
  have h1 := h.2.2
  exact ⟨small_filter (k := p.degree.toNat) h1 (by omega) _, small_filter (k := 2) h1 (by omega) _⟩

end Go.Proofs.YtndebacmnpghkaaGreat
end

section
/- Labels pulled through the node step: plain. -/
namespace Go.Proofs.YtndebacmnpghkaaGreat
open Go.GX Go.RowKit
set_option maxRecDepth 100000

def Stubless (E : Ends) : Prop := ∀ v i, port E v i ≠ some ((v : Int), (i : Int))

structure PnAsked (p : Prob) (n : Net) (L : List (List Int)) : Prop where
  good : ndGood p
  net : Good n
  stub : Stubless n.ends
  lab : LabOk (nodeP p) n.ends L
  clean : Clean (nodeP p) n.ends L

end Go.Proofs.YtndebacmnpghkaaGreat
end

section
/- Labels pulled through the node step, both sides. -/
namespace Go.Proofs.YtndebacmnpghkaaGreat
open Go.GX Go.RowKit
set_option maxRecDepth 100000

theorem get_of {l : List Int} {k : Nat} (hk : k < l.length) : l.getD k 0 = l[k] := by rw [List.getD_eq_getElem?_getD, List.getElem?_eq_getElem hk]; rfl

end Go.Proofs.YtndebacmnpghkaaGreat
end

section
/- One round of elimination, refusals of zero rounds, endless problems: both sides. -/
namespace Go.Proofs.YtndebacmnpghkaaGreat
open Go.GX Go.RowKit
set_option maxRecDepth 100000

/-- What a round answers. -/
def RdIs (w : World) (q : Prob) (few : Prop) (S : List Int) (x y : Int) (z u _a1 a2 : Sl) (b : Bool) (w' : World) : Prop :=
  Ext w w' ∧ ((b = true ∧ few ∧ x = q.labels ∧ y = q.degree ∧ NewP w.heap.size w' z u a2 q S) ∨ (b = false ∧ ¬ few))

def roundP (p : Prob) : Prob := nodeP (edgeP p)
def rdFew (p : Prob) : Prop := edFew p ∧ ndFew (edgeP p)
def rdGood (p : Prob) : Prop := PGood p ∧ rdFew p

theorem made_round {p : Prob} (hg : PGood p) (h : rdFew p) : PGood (roundP p) := node_made' (edge_made ⟨hg, h.1⟩) h.2
where node_made' {q : Prob} (hq : PGood q) (h : ndFew q) : PGood (nodeP q) := (NdAsked.mk hq h.1 h.2).made

theorem small_round {p : Prob} (hg : PGood p) (h : rdFew p) : SmallP (roundP p) := by
  have hq := edge_made ⟨hg, h.1⟩
  have hd := hq.deg
  have h1 := h.2.2.2
  exact ⟨small_filter (k := (edgeP p).degree.toNat) h1 (by omega) _, small_filter (k := 2) h1 (by omega) _⟩

theorem eliminate_ok {w : World} {c d : Sl} {p : Prob} (h : RProb w c d p) (hs : SmallP p) (hg : PGood p) :
    Calls Tryz.prog F.i_eliminate #[.agg #[.int .i64 p.labels, .int .i64 p.degree, c.v, d.v]] w (Ret [.agg [.int .i64, .int .i64, .sl, .sl], .at .sl, .at .sl, .at .bool] (RdIs w (roundP p) (rdFew p) (nodeSets (edgeP p)))) := by
  refine C_i_eliminate ?_
  unfold V_i_eliminate
  refine NEW_intro fun pp w1 hp1 hs1 hE1 hb1 => NEW_intro fun px w2 hp2 hs2 hE2 hb2 => ?_
  have hE := hE1.trans hE2
  have hz1 := hE1.size_le
  replace h := h.ext hE
  replace hb1 := hb1.ext hE2
  refine LD_iiss hb1 ?_
  refine call (edgeStep_ok h hs hg) ?_
  rintro x y z u a b w3 ⟨hE3, hr⟩
  replace hE := hE.ext hE3
  replace hb1 := hb1.ext hE3
  replace hb2 := hb2.ext hE3
  refine NEW_ST (one4p _ _ _ _) rfl fun pq w5 hpq hE5 hbq => ?_
  replace hE := hE.ext hE5
  replace hb1 := hb1.ext hE5
  replace hb2 := hb2.ext hE5
  rcases hr with ⟨rfl, hfe, rfl, rfl, hP⟩ | ⟨rfl, hno⟩
  · replace hP := hP.ext hE5
    have hgq := edge_made ⟨hg, hfe⟩
    refine cond_not (fun hf => by cases hf) (fun _ => LD_iiss hbq ?_)
    refine call (nodeStep_ok (p := edgeP p) hP.prob (edge_small ⟨hg, hfe⟩) hgq) ?_
    rintro x' y' z' u' a' b' w7 ⟨hE7, hr'⟩
    have hz5 := hE.size_le
    have hl2 := hb2.lt
    replace hE := hE.ext hE7
    replace hb1 := hb1.ext hE7
    replace hb2 := hb2.ext hE7
    refine NEW_ST (one4p _ _ _ _) rfl fun pr w9 hpr hE9 hbr => ?_
    replace hE := hE.ext hE9
    replace hb1 := hb1.ext hE9
    replace hb2 := hb2.ext hE9
    rcases hr' with ⟨rfl, hfn, rfl, rfl, hP'⟩ | ⟨rfl, hno'⟩
    · refine cond_not (fun hf => by cases hf) (fun _ => LD_iiss hbr ?_)
      refine ST_all hb2 (one4p _ _ _ _) rfl fun w11 hs11 hz11 hb11 => LD_iiss hb11 ?_
      exact ⟨hs11.ext0 hE fun k hk => by cases hk; omega, .inl ⟨rfl, ⟨hfe, hfn⟩, rfl, rfl, ((hP'.ext hE9).step hs11 (by omega)).low hz5⟩⟩
    · refine cond_not (fun _ => ?_) (fun ht => by cases ht)
      exact zero_problem hE hb2 (by omega) fun w' hE' => ⟨hE', .inr ⟨rfl, fun hA => hno' hA.2⟩⟩
  · refine cond_not (fun _ => ?_) (fun ht => by cases ht)
    exact zero_problem hE hb2 (by omega) fun w' hE' => ⟨hE', .inr ⟨rfl, fun hA => hno hA.1⟩⟩

theorem sEliminateRound_ok {w : World} {c d : Sl} {p : Prob} (h : RProb w c d p) :
    Calls Tryz.prog F.s_EliminateRound #[.agg #[.int .i64 p.labels, .int .i64 p.degree, c.v, d.v]] w (Ret [.agg [.int .i64, .int .i64, .sl, .sl], .at .sl, .at .sl, .at .bool] (RdIs w (roundP p) (rdGood p) (nodeSets (edgeP p)))) := by
  refine C_s_EliminateRound ?_
  unfold V_s_EliminateRound
  refine NEW_intro fun pp w1 hp1 hs1 hE1 hb1 => NEW_intro fun px w2 hp2 hs2 hE2 hb2 => ?_
  have hE := hE1.trans hE2
  have hz1 := hE1.size_le
  replace h := h.ext hE
  replace hb1 := hb1.ext hE2
  refine LD_iiss hb1 ?_
  refine call (sEdgeStep_ok h) ?_
  rintro x y z u a b w3 ⟨hE3, hr⟩
  replace hE := hE.ext hE3
  replace hb1 := hb1.ext hE3
  replace hb2 := hb2.ext hE3
  refine NEW_ST (one4p _ _ _ _) rfl fun pq w5 hpq hE5 hbq => ?_
  replace hE := hE.ext hE5
  replace hb1 := hb1.ext hE5
  replace hb2 := hb2.ext hE5
  rcases hr with ⟨rfl, hfe, rfl, rfl, hP⟩ | ⟨rfl, hno⟩
  · replace hP := hP.ext hE5
    have hgq := edge_made hfe
    refine cond_not (fun hf => by cases hf) (fun _ => LD_iiss hbq ?_)
    refine call (elNode_ok (p := edgeP p) hP.prob hgq) ?_
    rintro x' y' z' u' a' b' w7 ⟨hE7, hr'⟩
    have hz5 := hE.size_le
    have hl2 := hb2.lt
    replace hE := hE.ext hE7
    replace hb1 := hb1.ext hE7
    replace hb2 := hb2.ext hE7
    refine NEW_ST (one4p _ _ _ _) rfl fun pr w9 hpr hE9 hbr => ?_
    replace hE := hE.ext hE9
    replace hb1 := hb1.ext hE9
    replace hb2 := hb2.ext hE9
    rcases hr' with ⟨rfl, hfn, rfl, rfl, hP'⟩ | ⟨rfl, hno'⟩
    · refine cond_not (fun hf => by cases hf) (fun _ => LD_iiss hbr ?_)
      refine ST_all hb2 (one4p _ _ _ _) rfl fun w11 hs11 hz11 hb11 => LD_iiss hb11 ?_
      exact ⟨hs11.ext0 hE fun k hk => by cases hk; omega, .inl ⟨rfl, ⟨hfe.1, hfe.2, hfn⟩, rfl, rfl, ((hP'.ext hE9).step hs11 (by omega)).low hz5⟩⟩
    · refine cond_not (fun _ => ?_) (fun ht => by cases ht)
      exact zero_problem hE hb2 (by omega) fun w' hE' => ⟨hE', .inr ⟨rfl, fun hA => hno' hA.2.2⟩⟩
  · refine cond_not (fun _ => ?_) (fun ht => by cases ht)
    exact zero_problem hE hb2 (by omega) fun w' hE' => ⟨hE', .inr ⟨rfl, fun hA => hno ⟨hA.1, hA.2.1⟩⟩⟩

/-! ### Refusals of zero rounds -/

def zTwo (p : Prob) (r c : List Int) : Bool := decide (r.length = 2) && (c.contains (r.getD 0 0) && (c.contains (r.getD 1 0) && !(edgeB p (r.getD 0 0) (r.getD 1 0))))
def ZOk (p : Prob) (ps : List (List Int)) : Prop := ps.length = p.nodes.length ∧ ∀ i, i < p.nodes.length → zTwo p (ps.getD i []) (p.nodes.getD i []) = true

theorem ZOk.no {p : Prob} {ps : List (List Int)} {i : Nat} (hi : i < p.nodes.length) (hf : zTwo p (ps.getD i []) (p.nodes.getD i []) = false) : ¬ ZOk p ps := fun h => by
  have := h.2 i hi
  rw [hf] at this; cases this

theorem isZeroRefusal_ok {w : World} {c d s : Sl} {p : Prob} {ps : List (List Int)} (h : RProb w c d p) (hg : PGood p) (hs : SmallP p) (hps : R w s ps) :
    Calls Tryz.prog F.i_isZeroRefusal #[.agg #[.int .i64 p.labels, .int .i64 p.degree, c.v, d.v], s.v] w (Ret [.at .bool] fun (x : Bool) w' => (x = true ↔ ZOk p ps) ∧ Ext w w') := by
  refine C_i_isZeroRefusal ?_
  unfold V_i_isZeroRefusal
  refine NEW_intro fun pp w1 hp1 hs1 hE hb1 => LD_bs2 hb1 ?_
  replace h := h.ext hE
  replace hps := hps.ext hE
  have hno : ∀ {w' : World}, Ext w w' → ¬ ZOk p ps → (false = true ↔ ZOk p ps) ∧ Ext w w' := fun h1 h2 => ⟨by simp [h2], h1⟩
  rw [hps.len, h.nodes.len]
  refine cond_ne (fun hne => hno hE fun hZ => hne (by rw [hZ.1])) (fun heq => ?_)
  have hlen : ps.length = p.nodes.length := by have : (ps.length : Int) = p.nodes.length := heq; omega
  refine ⟨IN ps.length fun i w' => Ext w1 w' ∧ ∀ u, u < i → zTwo p (ps.getD u []) (p.nodes.getD u []) = true, MN ps.length, IN_zero ⟨Ext.refl _, fun u hu => absurd hu (by omega)⟩, ?_⟩
  rintro _ w2 ⟨i, rfl, hi, hE2, hI⟩
  intros
  refine cond_dec (fun hlt => ?_) (fun hge => ⟨⟨fun _ => ⟨hlen, fun u hu => hI u (by omega)⟩, fun _ => rfl⟩, hE.trans hE2⟩)
  have hi' : i < ps.length := by omega
  have hin : i < p.nodes.length := by omega
  have hg1 : ps.getD i [] = ps[i] := rowD hi'
  have hg2 : p.nodes.getD i [] = p.nodes[i] := rowD hin
  replace h := h.ext hE2
  replace hps := hps.ext hE2
  replace hb1 := hb1.ext hE2
  have hbad : ∀ {w' : World}, Ext w2 w' → zTwo p ps[i] p.nodes[i] = false → (false = true ↔ ZOk p ps) ∧ Ext w w' := fun hE' hf => hno (hE.trans (hE2.trans hE')) (ZOk.no hin (by rw [hg1, hg2]; exact hf))
  refine hps.ixL hi' fun q row hrow hc => LD_sl hc ?_
  rw [hrow.len]
  refine cond_ne (fun hne => fun w3 hE3 => hbad hE3 ?_) (fun heq2 => ?_)
  · have : ps[i].length ≠ 2 := by intro he; exact hne (by rw [he]; rfl)
    simp [zTwo, this]
  have hl2 : ps[i].length = 2 := by have : (ps[i].length : Int) = 2 := heq2; omega
  have h64 := flat_ok hrow.any
  have e0 : ps[i].getD 0 0 = ps[i][0] := get_of (by omega)
  have e1 : ps[i].getD 1 0 = ps[i][1] := get_of (by omega)
  have hd2 : decide (ps[i].length = 2) = true := decide_eq_true hl2
  have hz : zTwo p ps[i] p.nodes[i] = (p.nodes[i].contains ps[i][0] && (p.nodes[i].contains ps[i][1] && !(edgeB p ps[i][0] ps[i][1]))) := by
    unfold zTwo
    rw [e0, e1, hd2, Bool.true_and]
  refine LD_bs2 hb1 ?_
  refine h.nodes.ixL hin fun qn rown hrown hcn => LD_sl hcn ?_
  refine hrow.ixI (i := 0) (by omega) fun q0 hI0 hc0 => LD_int hc0 ?_
  refine QCALL_bool (p.nodes[i].contains ps[i][0]) (fun w' hw' => call (contains_ok (hrown.any.ext hw') _) fun x w'' hx => ⟨hx.1, hx.2 ▸ Ext.refl _⟩) ?_
  refine cond_not (fun hf => fun w4 hE4 => hbad hE4 (by rw [hz, hf]; rfl)) (fun ht0 => LD_bs2 hb1 ?_)
  refine h.nodes.ixL hin fun qn2 rown2 hrown2 hcn2 => LD_sl hcn2 ?_
  refine hrow.ixI (i := 1) (by omega) fun q1 hI1 hc1 => LD_int hc1 ?_
  refine QCALL_bool (p.nodes[i].contains ps[i][1]) (fun w' hw' => call (contains_ok (hrown2.any.ext hw') _) fun x w'' hx => ⟨hx.1, hx.2 ▸ Ext.refl _⟩) ?_
  refine cond_not (fun hf => fun w4 hE4 => hbad hE4 (by rw [hz, ht0, hf]; rfl)) (fun ht1 => LD_iiss hb1 ?_)
  refine hrow.ixI (i := 0) (by omega) fun q0 hI0 hc0 => LD_int hc0 ?_
  refine hrow.ixI (i := 1) (by omega) fun q1 hI1 hc1 => LD_int hc1 ?_
  refine QCALL_bool (edgeB p ps[i][0] ps[i][1]) (edgeQ h hs hg hI0 hI1) ?_
  intro w6 hE6
  refine cond_b (fun ht => hbad hE6 (by rw [hz, ht0, ht1, ht]; rfl)) (fun hf => ?_)
  refine IN_next (by have := hps.le; omega) hi' ⟨hE2.trans hE6, fun u hu => ?_⟩
  by_cases hui : u = i
  · subst hui; rw [hg1, hg2, hz, ht0, ht1, hf]; rfl
  · exact hI u (by omega)

theorem zeTwo_ok {w : World} {c d s x y : Sl} {p : Prob} {r l : List Int} (h : RProb w c d p) (hr : R w s r) (hx : R w x l) (hy : R w y l) :
    Calls Tryz.prog F.s_zeTwo #[.agg #[.int .i64 p.labels, .int .i64 p.degree, c.v, d.v], s.v, x.v, y.v] w (Ret [.at .bool] fun (b : Bool) w' => b = zTwo p r l ∧ Ext w w') := by
  refine C_s_zeTwo ?_
  unfold V_s_zeTwo
  refine NEW_intro fun pp w1 hp1 hs1 hE hb1 => ?_
  replace h := h.ext hE
  replace hr := hr.ext hE
  replace hx := hx.ext hE
  replace hy := hy.ext hE
  rw [hr.len]
  refine cond_eq (fun heq => ?_) (fun hne => fun w5 hE5 => ⟨?_, hE.trans hE5⟩)
  · have hl2 : r.length = 2 := by have : (r.length : Int) = 2 := heq; omega
    have e0 : r.getD 0 0 = r[0] := get_of (by omega)
    have e1 : r.getD 1 0 = r[1] := get_of (by omega)
    have hd2 : decide (r.length = 2) = true := decide_eq_true hl2
    have hz : zTwo p r l = (l.contains r[0] && (l.contains r[1] && !(edgeB p r[0] r[1]))) := by
      unfold zTwo
      rw [e0, e1, hd2, Bool.true_and]
    refine hr.ixI (i := 0) (by omega) fun q0 hI0 hc0 => LD_int hc0 ?_
    refine QCALL_bool (l.contains r[0]) (fun w' hw' => call (l1Has_ok (hx.ext hw') _) fun x w'' hx => ⟨hx.1, hx.2 ▸ Ext.refl _⟩) ?_
    refine cond_b (fun ht0 => ?_) (fun hf => fun w4 hE4 => ⟨by rw [hz, hf]; rfl, hE.trans hE4⟩)
    refine hr.ixI (i := 1) (by omega) fun q1 hI1 hc1 => LD_int hc1 ?_
    refine QCALL_bool (l.contains r[1]) (fun w' hw' => call (l1Has_ok (hy.ext hw') _) fun x w'' hx => ⟨hx.1, hx.2 ▸ Ext.refl _⟩) ?_
    refine cond_b (fun ht1 => LD_iiss hb1 ?_) (fun hf => fun w4 hE4 => ⟨by rw [hz, ht0, hf]; rfl, hE.trans hE4⟩)
    refine hr.ixI (i := 0) (by omega) fun q0 hI0 hc0 => LD_int hc0 ?_
    refine hr.ixI (i := 1) (by omega) fun q1 hI1 hc1 => LD_int hc1 ?_
    refine QCALL_bool (edgeB p r[0] r[1]) (prEdgeQ h hI0 hI1) ?_
    intro w2 hE2
    exact ⟨by rw [hz, ht0, ht1]; rfl, hE.trans hE2⟩
  · have : r.length ≠ 2 := by intro he; exact hne (by rw [he]; rfl)
    simp [zTwo, this]

theorem boZero_ok {w : World} {c d s : Sl} {p : Prob} {ps : List (List Int)} (h : RProb w c d p) (hg : PGood p) (hps : R w s ps) :
    Calls Tryz.prog F.s_boZero #[.agg #[.int .i64 p.labels, .int .i64 p.degree, c.v, d.v], s.v] w (Ret [.at .bool] fun (x : Bool) w' => (x = true ↔ ZOk p ps) ∧ Ext w w') := by
  refine C_s_boZero ?_
  unfold V_s_boZero
  refine NEW_intro fun p0 w1 hp1 hs1 hE hb0 => LD_iiss hb0 ?_
  replace h := h.ext hE
  replace hps := hps.ext hE
  refine C_s_CheckZeroRefusal ?_
  unfold V_s_CheckZeroRefusal
  refine NEW_intro fun pp w2 hp2 hs2 hE2 hb1 => LD_iiss hb1 ?_
  have hno : ∀ {w' : World}, Ext w w' → ¬ ZOk p ps → (false = true ↔ ZOk p ps) ∧ Ext w w' := fun h1 h2 => ⟨by simp [h2], h1⟩
  replace hE := hE.ext hE2
  replace h := h.ext hE2
  replace hps := hps.ext hE2
  refine call (prGood_ok h) ?_
  rintro x w3 ⟨hx, hE3⟩
  replace hE := hE.ext hE3
  replace h := h.ext hE3
  replace hps := hps.ext hE3
  replace hb1 := hb1.ext hE3
  refine cond_not (fun hf => by rw [hx.2 hg] at hf; cases hf) (fun _ => LD_bs2 hb1 ?_)
  rw [hps.len, h.nodes.len]
  refine cond_ne (fun hne => hno hE fun hZ => hne (by rw [hZ.1])) (fun heq => LD_bs2 hb1 ?_)
  have hlen : ps.length = p.nodes.length := by have : (ps.length : Int) = p.nodes.length := heq; omega
  rw [h.nodes.len]
  refine ⟨IN p.nodes.length fun i w' => Ext w3 w' ∧ ∀ u, u < i → zTwo p (ps.getD u []) (p.nodes.getD u []) = true, MN p.nodes.length, IN_zero ⟨Ext.refl _, fun u hu => absurd hu (by omega)⟩, ?_⟩
  rintro _ w4 ⟨i, rfl, hi, hE4, hI⟩
  intros
  refine cond_dec (fun hlt => ?_) (fun hge => ⟨⟨fun _ => ⟨hlen, fun u hu => hI u (by omega)⟩, fun _ => rfl⟩, hE.trans hE4⟩)
  have hin : i < p.nodes.length := by omega
  have hi' : i < ps.length := by omega
  have hg1 : ps.getD i [] = ps[i] := rowD hi'
  have hg2 : p.nodes.getD i [] = p.nodes[i] := rowD hin
  replace h := h.ext hE4
  replace hps := hps.ext hE4
  replace hb1 := hb1.ext hE4
  refine h.nodes.ixL hin fun qn rown hrown hcn => LD_sl hcn (LD_iiss hb1 ?_)
  refine hps.ixL hi' fun q row hrow hc => LD_sl hc ?_
  refine QCALL_bool (zTwo p ps[i] p.nodes[i]) (fun w' hw' => zeTwo_ok (h.ext hw') (hrow.any.ext hw') (hrown.any.ext hw') (hrown.any.ext hw')) ?_
  intro w5 hE5
  refine cond_not (fun hf => hno (hE.trans (hE4.trans hE5)) (ZOk.no hin (by rw [hg1, hg2]; exact hf))) (fun ht => ?_)
  refine IN_next (by have := h.nodes.le; omega) hin ⟨hE4.trans hE5, fun u hu => ?_⟩
  by_cases hui : u = i
  · subst hui; rw [hg1, hg2]; exact ht
  · exact hI u (by omega)

/-! ### Endless problems -/

def EdAns (p : Prob) (f : List Int) (ps : List (List Int)) (x ok : Bool) : Prop := (ok = true ∧ rdGood p ∧ (x = true ↔ MapOk (roundP p) p f ∧ ZOk p ps)) ∨ (ok = false ∧ x = false ∧ ¬ rdGood p)

theorem EdAns.eq {p : Prob} {f : List Int} {ps : List (List Int)} {x ok y ok' : Bool} (h : EdAns p f ps x ok) (h' : EdAns p f ps y ok') : x = y ∧ ok = ok' := by
  rcases h with ⟨rfl, h1, h2⟩ | ⟨rfl, rfl, h1⟩
  · rcases h' with ⟨rfl, _, h3⟩ | ⟨rfl, rfl, h3⟩
    · exact ⟨by rw [Bool.eq_iff_iff, h2, h3], rfl⟩
    · exact absurd h1 h3
  · rcases h' with ⟨rfl, h3, _⟩ | ⟨rfl, rfl, h3⟩
    · exact absurd h3 h1
    · exact ⟨rfl, rfl⟩
end Go.Proofs.YtndebacmnpghkaaGreat
end

section
/- Lists of problems as arguments. -/
namespace Go.Proofs.YtndebacmnpghkaaGreat
open Go.GX Go.RowKit
set_option maxRecDepth 100000

instance : Rep Prob where
  sz := 4
  rep D w cs q := ∃ z u : Sl, cs = [.int .i64 q.labels, .int .i64 q.degree, z.v, u.v] ∧ I64 q.labels ∧ I64 q.degree ∧ SlR D w z q.nodes ∧ SlR D w u q.edges
  len h := by obtain ⟨z, u, rfl, _⟩ := h; rfl
  agr hE h := by obtain ⟨z, u, rfl, a, b, c, d⟩ := h; exact ⟨z, u, rfl, a, b, c.agr hE, d.agr hE⟩
  weak hD h := by obtain ⟨z, u, rfl, a, b, c, d⟩ := h; exact ⟨z, u, rfl, a, b, c.weak hD RepP.pos, d.weak hD RepP.pos⟩
instance : RepP Prob := ⟨by decide⟩

/-- The cells of a problem at a place. -/
def PCells (w : World) (p : Addr) (q : Prob) (z u : Sl) : Prop := ∀ (j : Nat) (v : Value), [Value.int .i64 q.labels, .int .i64 q.degree, z.v, u.v][j]? = some v → w.cell? (p.add j) = some v

theorem LD_pcells {w : World} {p : Addr} {q : Prob} {z u : Sl} {K : Int → Int → Sl → Sl → Prop} (hc : PCells w p q z u) (hk : K q.labels q.degree z u) : LD [.int .i64, .int .i64, .sl, .sl] p w K :=
  ⟨[.int .i64 q.labels, .int .i64 q.degree, z.v, u.v], rfl, fun i v hv => hc i v hv, hk⟩
theorem LD_pdeg {w : World} {p : Addr} {q : Prob} {z u : Sl} {K : Int → Prop} (hc : PCells w p q z u) (hk : K q.degree) : LD [.int .i64] (p.add 1) w K := LD_int (hc 1 _ rfl) hk

theorem slr_ixP {D : Nat → Prop} {w : World} {s : Sl} {l : List Prob} (h : SlR D w s l) {i : Nat} (hi : i < l.length) {K : Addr → Prop} (hk : ∀ p z u, RProb w z u l[i] → PCells w p l[i] z u → K p) : IX s i 4 K :=
  h.ix rfl (by omega) (by omega) fun p cs hr hc => by
    obtain ⟨z, u, rfl, a, b, c, d⟩ := hr
    exact hk p z u ⟨a, b, c.any, d.any⟩ hc

theorem eqProblemS_ok {w : World} {a b : Sl} {l : List Prob} (h : R w a l) (h' : R w b l) :
    Calls Tryz.prog F.l_eqProblemS #[a.v, b.v] w (Ret [.at .bool] fun (r : Bool) w' => r = true ∧ Ext w w') := by
  refine C_l_eqProblemS ?_
  unfold V_l_eqProblemS
  rw [h.len, h'.len]
  refine cond_ne (fun hne => absurd rfl hne) (fun _ => ?_)
  refine ⟨IN l.length fun i w' => Ext w w', MN l.length, IN_zero (Ext.refl _), ?_⟩
  rintro _ w1 ⟨i, rfl, hi, hE1⟩
  intros
  refine cond_dec (fun hlt => ?_) (fun hge => ⟨rfl, hE1⟩)
  have hi' : i < l.length := by omega
  refine slr_ixP (h.ext hE1) hi' fun p z u hP hc => LD_pcells hc ?_
  refine slr_ixP (h'.ext hE1) hi' fun p' z' u' hP' hc' => LD_pcells hc' ?_
  refine QCALL_bool true (fun w' hw' => eqProblem_ok (hP.ext hw') (hP'.ext hw')) ?_
  intro w2 hE2
  refine cond_not (fun hf => by cases hf) (fun _ => IN_next h.le hi' (hE1.trans hE2))

/-! ### Copies of lists of problems -/

/-- What the cells of a copy hold. -/
structure PRec where
  x : Int
  y : Int
  z : Sl
  u : Sl

instance : Rep PRec where
  sz := 4
  rep _ _ cs r := cs = [.int .i64 r.x, .int .i64 r.y, r.z.v, r.u.v]
  len h := by rw [h]; rfl
  agr _ h := h
  weak _ h := h
instance : RepP PRec := ⟨by decide⟩
instance : Flat PRec where
  cells r := [.int .i64 r.x, .int .i64 r.y, r.z.v, r.u.v]
  ok _ := True
  size _ := rfl
  one r v hv := one4p r.x r.y r.z r.u v hv
  repOk _ := rfl
  ofRep h := ⟨h, trivial⟩

theorem slt_prob : SlT Tryz.prog T.t_sl_i_Problem T.t_i_Problem 4 64 (.agg #[.int .i64 0, .int .i64 0, .slice none 0 0, .slice none 0 0]) := ⟨by kernel_rfl, by kernel_rfl, rfl, by decide⟩

/-- A record that stands for a problem, its lists in blocks from a number on. -/
structure RecOf (D : Nat → Prop) (w : World) (r : PRec) (q : Prob) : Prop where
  x : r.x = q.labels
  y : r.y = q.degree
  lab : I64 q.labels
  deg : I64 q.degree
  nodes : SlR D w r.z q.nodes
  edges : SlR D w r.u q.edges

theorem RecOf.ext {D : Nat → Prop} {w w' : World} {r : PRec} {q : Prob} (h : RecOf D w r q) (hE : Ext w w') : RecOf D w' r q := ⟨h.x, h.y, h.lab, h.deg, h.nodes.ext hE, h.edges.ext hE⟩
theorem RecOf.step {D : Nat → Prop} {w w' : World} {r : PRec} {q : Prob} {g : Option Nat} (h : RecOf D w r q) (hs : Step w w' g) (hD : ∀ b, D b → g ≠ some b) : RecOf D w' r q := ⟨h.x, h.y, h.lab, h.deg, h.nodes.stepD hs hD, h.edges.stepD hs hD⟩

theorem recs_rep {w : World} {base : Nat} {e : TypeId} {s : Sl} {rs : List PRec} {l : List Prob} {D D' : Nat → Prop} (h : OwnL w base e s rs) (hlen : rs.length = l.length) (hr : ∀ j (h1 : j < rs.length) (h2 : j < l.length), RecOf D w rs[j] l[j]) (hD : ∀ b, D b → D' b) (hb : ∀ b, base ≤ b → D' b) : SlR D' w s l := by
  have h0 := h.rep (fun _ _ => trivial)
  refine ⟨by rw [h0.1, hlen], h0.2.1, fun i x hx => ?_⟩
  obtain ⟨h2, rfl⟩ := List.getElem?_eq_some_iff.1 hx
  have h1 : i < rs.length := by omega
  obtain ⟨a, cs, ha, hb', hcs, hc⟩ := h0.2.2 i rs[i] (by simp [h1])
  have hcs' : cs = [.int .i64 rs[i].x, .int .i64 rs[i].y, rs[i].z.v, rs[i].u.v] := hcs
  subst hcs'
  have hR := hr i h1 h2
  exact ⟨a, _, ha, hb _ hb', ⟨rs[i].z, rs[i].u, by rw [hR.x, hR.y], hR.lab, hR.deg, hR.nodes.weak (fun b h _ => hD b h) RepP.pos, hR.edges.weak (fun b h _ => hD b h) RepP.pos⟩, hc⟩

theorem toProblemS_ok {w : World} {a : Sl} {l : List Prob} (h : R w a l) (hl : l.length ≤ 1048576) (hs : ∀ q ∈ l, SmallP q) :
    Calls Tryz.prog F.l_toProblemS #[a.v] w (Ret [.at .sl] fun (r : Sl) w' => Ext w w' ∧ SlR (fun b => w.heap.size ≤ b) w' r l) := by
  refine C_l_toProblemS ?_
  unfold V_l_toProblemS
  rw [h.len]
  refine RUN_make (α := PRec) slt_prob (d := ⟨0, 0, ⟨none, 0, 0⟩, ⟨none, 0, 0⟩⟩) rfl (by omega) (by unfold maxLen; omega) fun t w1 hE1 hO1 => ?_
  have hz1 := hE1.size_le
  have hto : ∀ k, oB t k → k < w1.heap.size := fun k hk => (hO1.blk k hk).2
  refine ⟨IN l.length fun i w' => Ext w w' ∧ w1.heap.size ≤ w'.heap.size ∧ ∃ rs : List PRec, OwnL w' w.heap.size T.t_i_Problem t rs ∧ rs.length = l.length ∧ ∀ j, j < i → ∀ (h1 : j < rs.length) (h2 : j < l.length), RecOf (fun b => w1.heap.size ≤ b) w' rs[j] l[j], MN l.length, IN_zero ⟨hE1, Nat.le_refl _, _, hO1, by simp, fun j hj => absurd hj (by omega)⟩, ?_⟩
  rintro _ w2 ⟨i, rfl, hi, hE2, hz2, rs, hO2, hrl, hR2⟩
  intros
  refine cond_dec (fun hlt => ?_) (fun hge => ?_)
  · have hi' : i < l.length := by omega
    refine slr_ixP (h.ext hE2) hi' fun p z u hP hc => LD_pcells hc ?_
    refine call (toProblem_own hP (hs _ (List.getElem_mem hi'))) ?_
    rintro _ _ z' u' w3 ⟨rfl, rfl, hE3, mid, hi3, hOP⟩
    have hO3 := hO2.ext hE3
    have hz3 := hE3.size_le
    have hlm := hOP.lom
    have hir : i < rs.length := by omega
    refine IX_own hO3 hir rfl fun q hq => ?_
    refine ST_own hO3 hir hq (⟨l[i].labels, l[i].degree, z', u'⟩ : PRec) rfl fun w4 hO4 hs4 => ?_
    have hz4 := hs4.size
    refine IN_next h.le hi' ⟨hs4.ext0 (hE2.trans hE3) fun k hk => (hO3.blk k hk).1, by omega, _, hO4, by simp [hrl], fun j hj h1 h2 => ?_⟩
    have hne : ∀ b, w1.heap.size ≤ b → t.v.ownBlock ≠ some b := fun b hb he => by have := hto b he; omega
    by_cases hji : j = i
    · subst hji
      rw [List.getElem_set_self]
      refine RecOf.step (w := w3) ⟨rfl, rfl, hP.labels, hP.degree, ?_, ?_⟩ hs4 hne
      · exact (hOP.nodes.repD (flat_okII hP.nodes)).weak (fun b hb _ => by omega) RepP.pos
      · exact (hOP.edges.repD (flat_okII hP.edges)).weak (fun b hb _ => by omega) RepP.pos
    · rw [List.getElem_set_ne (by omega)]
      exact ((hR2 j (by omega) (by simpa using h1) h2).ext hE3).step hs4 hne
  · have : i = l.length := by omega
    subst this
    exact ⟨hE2, recs_rep hO2 hrl (fun j h1 h2 => hR2 j h2 h1 h2) (fun b hb => by have : w1.heap.size ≤ b := hb; show w.heap.size ≤ b; omega) fun b hb => hb⟩

end Go.Proofs.YtndebacmnpghkaaGreat
end

section
/- Bounds as arguments. -/
namespace Go.Proofs.YtndebacmnpghkaaGreat
open Go.GX Go.RowKit
set_option maxRecDepth 100000

structure Bnd where
  ps : List Prob
  maps : List (List Int)
  pairs : List (List Int)

structure RBnd (w : World) (a b c : Sl) (B : Bnd) : Prop where
  ps : R w a B.ps
  maps : R w b B.maps
  pairs : R w c B.pairs

theorem RBnd.ext {w w' : World} {a b c : Sl} {B : Bnd} (h : RBnd w a b c B) (hE : Ext w w') : RBnd w' a b c B := ⟨h.ps.ext hE, h.maps.ext hE, h.pairs.ext hE⟩

structure SmallB (B : Bnd) : Prop where
  len : B.ps.length ≤ 1048576
  ps : ∀ q ∈ B.ps, SmallP q
  maps : SmallM B.maps
  pairs : SmallM B.pairs

theorem eqBound_ok {w : World} {a b c x y z : Sl} {B : Bnd} (h : RBnd w a b c B) (h' : RBnd w x y z B) :
    Calls Tryz.prog F.l_eqBound #[.agg #[a.v, b.v, c.v], .agg #[x.v, y.v, z.v]] w (Ret [.at .bool] fun (r : Bool) w' => r = true ∧ Ext w w') := by
  refine C_l_eqBound ?_
  unfold V_l_eqBound
  refine NEW_intro fun pa w1 hp1 hs1 hE1 hb1 => NEW_intro fun pb w2 hp2 hs2 hE2 hb2 => ?_
  have hE := hE1.trans hE2
  replace h := h.ext hE
  replace h' := h'.ext hE
  replace hb1 := hb1.ext hE2
  refine LD_bs0 hb1 (LD_bs0 hb2 ?_)
  refine call (eqProblemS_ok h.ps h'.ps) ?_
  rintro _ w3 ⟨rfl, hE3⟩
  replace hE := hE.ext hE3
  replace h := h.ext hE3
  replace h' := h'.ext hE3
  replace hb1 := hb1.ext hE3
  replace hb2 := hb2.ext hE3
  refine cond_f (by simp) (LD_bs1 hb1 (LD_bs1 hb2 ?_))
  refine call (eqIntSS_ok h.maps h'.maps) ?_
  rintro _ w4 ⟨rfl, hE4⟩
  replace hE := hE.ext hE4
  replace h := h.ext hE4
  replace h' := h'.ext hE4
  replace hb1 := hb1.ext hE4
  replace hb2 := hb2.ext hE4
  refine cond_f (by simp) (LD_bs2 hb1 (LD_bs2 hb2 ?_))
  refine call (eqIntSS_ok h.pairs h'.pairs) ?_
  rintro _ w5 ⟨rfl, hE5⟩
  exact cond_f (by simp) ⟨rfl, hE.trans hE5⟩

theorem toBound_ok {w : World} {a b c : Sl} {B : Bnd} (h : RBnd w a b c B) (hs : SmallB B) :
    Calls Tryz.prog F.l_toBound #[.agg #[a.v, b.v, c.v]] w (Ret [.agg [.sl, .sl, .sl]] fun (x y z : Sl) w' => Ext w w' ∧ RBnd w' x y z B) := by
  refine C_l_toBound ?_
  unfold V_l_toBound
  refine NEW_intro fun pa w1 hp1 hs1 hE1 hb1 => ?_
  refine NEW_intro fun px w2 hp2 hs2 hE2 hb2 => ?_
  refine NEW_intro fun po w3 hp3 hs3 hE3 hb3 => ?_
  have ha3 := (hb1.ext hE2).ext hE3
  have hx3 := hb2.ext hE3
  have hE : Ext w w3 := (hE1.trans hE2).trans hE3
  have hlt := hb3.lt
  refine LD_bs0 ha3 ?_
  refine call (toProblemS_ok (h.ps.ext hE) hs.len hs.ps) ?_
  rintro x w4 ⟨hE4, hx⟩
  refine ST_box1 (hb3.ext hE4) (by simp) rfl fun w5 hz5 hk5 hX5 hb5 => ?_
  have hE5 := hX5 _ (hE.trans hE4) (by omega)
  have ha5 := (ha3.ext hE4).of_block (hk5 _ (by omega))
  have hx5 := (hx3.ext hE4).of_block (hk5 _ (by omega))
  have hxx5 := hx.agr fun b (hb : w3.heap.size ≤ b) => hk5 b (by omega)
  refine LD_bs1 ha5 ?_
  refine call (toIntSS_own (h.maps.ext hE5) hs.maps.1 hs.maps.2) ?_
  rintro y w6 ⟨hE6, hy⟩
  refine ST_box1 (hb5.ext hE6) (by simp) rfl fun w7 hz7 hk7 hX7 hb7 => ?_
  have hE7 := hX7 _ (hE5.trans hE6) (by omega)
  have ha7 := (ha5.ext hE6).of_block (hk7 _ (by omega))
  have hx7 := (hx5.ext hE6).of_block (hk7 _ (by omega))
  have hz4 := hE4.size_le
  have hxx7 := (hxx5.ext hE6).agr fun b (hb : w3.heap.size ≤ b) => hk7 b (by omega)
  have hyy7 := ((hy.repD (flat_okII h.maps)).agr fun b (hb : w5.heap.size ≤ b) => hk7 b (by omega))
  refine LD_bs2 ha7 ?_
  refine call (toIntSS_own (h.pairs.ext hE7) hs.pairs.1 hs.pairs.2) ?_
  rintro z w8 ⟨hE8, hz⟩
  have hz6 := hE6.size_le
  refine ST_box1 (hb7.ext hE8) (by simp) rfl fun w9 hz9 hk9 hX9 hb9 => ?_
  have hE9 := hX9 _ (hE7.trans hE8) (by omega)
  have hx9 := (hx7.ext hE8).of_block (hk9 _ (by omega))
  have hxx9 := (hxx7.ext hE8).agr fun b (hb : w3.heap.size ≤ b) => hk9 b (by omega)
  have hyy9 := (hyy7.ext hE8).agr fun b (hb : w5.heap.size ≤ b) => hk9 b (by omega)
  have hzz9 := (hz.repD (flat_okII h.pairs)).agr fun b (hb : w7.heap.size ≤ b) => hk9 b (by omega)
  refine LD_box3 hb9 ?_
  refine ST_all hx9 (one3 _ _ _) rfl fun w10 hs10 hz10 hb10 => ?_
  have hpx := hb2.lt
  have hE2s := hE3.size_le
  refine LD_box3 hb10 ⟨hs10.ext0 hE9 (fun k hk => by cases hk; have := hE1.size_le; omega), ?_, ?_, ?_⟩
  · exact (hxx9.stepD hs10 fun b (hb : w3.heap.size ≤ b) he => by cases he; omega).any
  · exact (hyy9.stepD hs10 fun b (hb : w5.heap.size ≤ b) he => by cases he; omega).any
  · exact (hzz9.stepD hs10 fun b (hb : w7.heap.size ≤ b) he => by cases he; omega).any

end Go.Proofs.YtndebacmnpghkaaGreat
end

section
/- Lists of problems that bounds are made of: both sides. -/
namespace Go.Proofs.YtndebacmnpghkaaGreat
open Go.GX Go.RowKit
set_option maxRecDepth 100000

def PsIn (ps : List Prob) (q : Prob) : Prop := PGood q ∧ ∀ h : 0 < ps.length, q.degree = ps[0].degree
def PsOk (ps : List Prob) : Prop := (1 ≤ ps.length ∧ ps.length ≤ 7) ∧ ∀ q ∈ ps, PsIn ps q

theorem isQ {w : World} {c d : Sl} {p : Prob} (h : RProb w c d p) : ∃ b : Bool, (b = true ↔ PGood p) ∧ ∀ w', Ext w w' → Calls Tryz.prog F.i_IsProblem #[.agg #[.int .i64 p.labels, .int .i64 p.degree, c.v, d.v]] w' (Ret [.at .bool] fun (c : Bool) w'' => c = b ∧ Ext w' w'') := by
  classical
  exact ⟨decide (PGood p), by simp, fun w' hE => call (IsProblem_ok (h.ext hE)) fun x _ ⟨h1, h2⟩ => ⟨by rw [Bool.eq_iff_iff, h1]; simp, h2⟩⟩
theorem prQ {w : World} {c d : Sl} {p : Prob} (h : RProb w c d p) : ∃ b : Bool, (b = true ↔ PGood p) ∧ ∀ w', Ext w w' → Calls Tryz.prog F.s_prGood #[.agg #[.int .i64 p.labels, .int .i64 p.degree, c.v, d.v]] w' (Ret [.at .bool] fun (c : Bool) w'' => c = b ∧ Ext w' w'') := by
  classical
  exact ⟨decide (PGood p), by simp, fun w' hE => call (prGood_ok (h.ext hE)) fun x _ ⟨h1, h2⟩ => ⟨by rw [Bool.eq_iff_iff, h1]; simp, h2⟩⟩

theorem problemsOk1_ok {w : World} {c d s : Sl} {p : Prob} {ps : List Prob} {pa : Addr} {t : TypeId} (h : RProb w c d p) (hb : Box w pa t [s.v]) (hs : R w s ps) (hl : 0 < ps.length) :
    Calls Tryz.prog F.i_problemsOk_1 #[.agg #[.int .i64 p.labels, .int .i64 p.degree, c.v, d.v], .pointer (some pa)] w (Ret [.at .bool] fun (x : Bool) w' => (x = true ↔ ¬ PsIn ps p) ∧ Ext w w') := by
  refine C_i_problemsOk_1 ?_
  unfold V_i_problemsOk_1
  refine NEW_intro fun pp w1 hp1 hs1 hE hb1 => LD_iiss hb1 ?_
  replace h := h.ext hE
  replace hb := hb.ext hE
  replace hs := hs.ext hE
  obtain ⟨b, hbg, hq⟩ := isQ h
  refine QCALL_bool b hq ?_
  refine cond_not (fun hf => fun w2 hE2 => ⟨?_, hE.trans hE2⟩) (fun ht => LD_bi1 hb1 (LD_bs hb ?_))
  · simp only [true_iff]
    exact fun hA => by rw [hbg.2 hA.1] at hf; cases hf
  · refine slr_ixP (i := 0) hs hl fun q z u hP hc => LD_pdeg hc ?_
    intro w3 hE3
    refine ⟨?_, hE.trans hE3⟩
    rw [bne_iff_ne]
    exact ⟨fun hne hA => hne (hA.2 hl), fun hA hd => hA ⟨hbg.1 ht, fun _ => hd⟩⟩

theorem problemsOk_ok {w : World} {s : Sl} {ps : List Prob} (hs : R w s ps) :
    Calls Tryz.prog F.i_problemsOk #[s.v] w (Ret [.at .bool] fun (x : Bool) w' => (x = true ↔ PsOk ps) ∧ Ext w w') := by
  refine C_i_problemsOk ?_
  unfold V_i_problemsOk
  refine NEW_intro fun pa w1 hp1 hs1 hE hb1 => LD_bs hb1 ?_
  replace hs := hs.ext hE
  rw [hs.len]
  refine call (within_ok _ _ _ _) ?_
  rintro _ _ ⟨rfl, rfl⟩
  refine cond_not (fun hf => ⟨?_, hE⟩) (fun ht => LD_bs hb1 ?_)
  · simp only [Bool.false_eq_true, false_iff]
    exact fun hA => inR_false hf ⟨by have := hA.1; omega, by have := hA.1; omega⟩
  have hr := inR_true ht
  have hl : 0 < ps.length := by omega
  refine C_slices_ContainsFunc_sl_i_Problem_i_Problem ?_
  unfold V_slices_ContainsFunc_sl_i_Problem_i_Problem
  refine C_slices_IndexFunc_sl_i_Problem_i_Problem ?_
  unfold V_slices_IndexFunc_sl_i_Problem_i_Problem
  rw [hs.len]
  refine ⟨IN ps.length fun i w' => Ext w1 w' ∧ ∀ q ∈ ps.take i, PsIn ps q, MN ps.length, IN_zero ⟨Ext.refl _, by simp⟩, ?_⟩
  rintro _ w2 ⟨i, rfl, hi, hE2, hI⟩
  intros
  refine cond_dec (fun hlt => ?_) (fun hge => ?_)
  · have hi' : i < ps.length := by omega
    refine slr_ixP (hs.ext hE2) hi' fun q z u hP hc => LD_pcells hc ?_
    refine CALLV_mk (by kernel_rfl) ?_
    refine call (problemsOk1_ok hP (hb1.ext hE2) (hs.ext hE2) hl) ?_
    rintro x w3 ⟨hx, hE3⟩
    refine cond_b (fun hb => ⟨?_, hE.trans (hE2.trans hE3)⟩) (fun hb => IN_next hs.le hi' ⟨hE2.trans hE3, fun q hq => ?_⟩)
    · have e : decide ((i : Int) ≥ 0) = true := by simp
      rw [e]
      simp only [Bool.not_true, Bool.false_eq_true, false_iff]
      exact fun hA => (hx.1 hb) (hA.2 _ (List.getElem_mem hi'))
    · rw [List.take_succ_eq_append_getElem hi'] at hq
      rcases List.mem_append.1 hq with h1 | h1
      · exact hI q h1
      · rw [List.mem_singleton.1 h1]
        exact Classical.byContradiction fun hn => by rw [hx.2 hn] at hb; cases hb
  · have : i = ps.length := by omega
    subst this
    rw [List.take_length] at hI
    refine ⟨?_, hE.trans hE2⟩
    have e : decide ((-1 : Int) ≥ 0) = false := by decide
    rw [e]
    simp only [Bool.not_false, true_iff]
    exact ⟨by omega, hI⟩

theorem boTwo_ok {w : World} {s : Sl} {ps : List Prob} (hs : R w s ps) :
    Calls Tryz.prog F.s_boTwo #[s.v] w (Ret [.at .bool] fun (x : Bool) w' => (x = true ↔ PsOk ps) ∧ Ext w w') := by
  refine C_s_boTwo ?_
  unfold V_s_boTwo
  rw [hs.len]
  refine ⟨IN ps.length fun i w' => Ext w w' ∧ ∀ q ∈ ps.take i, PsIn ps q, MN ps.length, IN_zero ⟨Ext.refl _, by simp⟩, ?_⟩
  rintro _ w1 ⟨i, rfl, hi, hE1, hI⟩
  intros
  refine cond_dec (fun hlt => ?_) (fun hge => ?_)
  · have hi' : i < ps.length := by omega
    have hl : 0 < ps.length := by omega
    refine slr_ixP (hs.ext hE1) hi' fun q z u hP hc => LD_pcells hc ?_
    refine NEW_ST (one4p _ _ _ _) rfl fun pp w3 hpp hE3 hb3 => LD_iiss hb3 ?_
    obtain ⟨b, hbg, hq⟩ := prQ (hP.ext hE3)
    have hE13 := hE1.trans hE3
    have hno : ∀ {w' : World}, Ext w3 w' → ¬ PsIn ps ps[i] → (false = true ↔ PsOk ps) ∧ Ext w w' := fun hE' hn => ⟨by simp only [Bool.false_eq_true, false_iff]; exact fun hA => hn (hA.2 _ (List.getElem_mem hi')), hE13.trans hE'⟩
    refine QCALL_bool b hq ?_
    refine cond_not (fun hf => fun w4 hE4 => hno hE4 fun hA => by rw [hbg.2 hA.1] at hf; cases hf) (fun ht => LD_bi1 hb3 ?_)
    refine slr_ixP (i := 0) (hs.ext hE13) hl fun q0 z0 u0 hP0 hc0 => LD_pdeg hc0 ?_
    intro w5 hE5
    refine cond_ne (fun hne => hno hE5 fun hA => hne (hA.2 hl)) (fun heq => IN_next hs.le hi' ⟨hE13.trans hE5, fun q hq => ?_⟩)
    rw [List.take_succ_eq_append_getElem hi'] at hq
    rcases List.mem_append.1 hq with h1 | h1
    · exact hI q h1
    · rw [List.mem_singleton.1 h1]; exact ⟨hbg.1 ht, fun _ => heq⟩
  · have : i = ps.length := by omega
    subst this
    rw [List.take_length] at hI
    refine call (l1In_ok _ _ _ _) ?_
    rintro _ _ ⟨rfl, rfl⟩
    refine ⟨⟨fun ht => ⟨?_, hI⟩, fun hA => ?_⟩, hE1⟩
    · have := inR_true ht; omega
    · cases hb : inR (ps.length : Int) 1 7 with
      | true => rfl
      | false => exact absurd ⟨by have := hA.1; omega, by have := hA.1; omega⟩ (inR_false hb)

end Go.Proofs.YtndebacmnpghkaaGreat
end

section
/- Whether a bound is right: both sides. -/
namespace Go.Proofs.YtndebacmnpghkaaGreat
open Go.GX Go.RowKit
set_option maxRecDepth 100000

theorem QCALL_prop {f : FuncId} {args : Array Value} {w : World} {K : Bool → Prop} {A : Prop} (h : ∀ w', Ext w w' → Calls Tryz.prog f args w' (Ret [.at .bool] fun (x : Bool) w'' => (x = true ↔ A) ∧ Ext w' w'')) (hk : ∀ b, (b = true ↔ A) → K b) : QCALL Tryz.prog f args w [.at .bool] K := by
  classical
  exact QCALL_bool (decide A) (fun w' hE => call (h w' hE) fun x _ ⟨h1, h2⟩ => ⟨by rw [Bool.eq_iff_iff, h1]; simp, h2⟩) (hk _ (by simp))

def StOk (p q : Prob) (f : List Int) : Prop := rdGood p ∧ MapOk (roundP p) q f
/-- What is asked of a bound. -/
structure Right (B : Bnd) : Prop where
  len : B.maps.length + 1 = B.ps.length
  step : ∀ i (h1 : i < B.maps.length) (h2 : i + 1 < B.ps.length), StOk (B.ps[i]'(by omega)) B.ps[i + 1] B.maps[i]
  zero : ∀ i (h : i < B.ps.length), i + 1 = B.ps.length → ZOk B.ps[i] B.pairs

theorem boStep_ok {w : World} {c d c' d' s : Sl} {p q : Prob} {f : List Int} (h : RProb w c d p) (h' : RProb w c' d' q) (hq : PGood q) (hf : R w s f) :
    Calls Tryz.prog F.s_boStep #[.agg #[.int .i64 p.labels, .int .i64 p.degree, c.v, d.v], .agg #[.int .i64 q.labels, .int .i64 q.degree, c'.v, d'.v], s.v] w (Ret [.at .bool] fun (x : Bool) w' => (x = true ↔ StOk p q f) ∧ Ext w w') := by
  refine C_s_boStep ?_
  unfold V_s_boStep
  refine NEW_intro fun pp w1 hp1 hs1 hE1 hb1 => NEW_intro fun pq w2 hp2 hs2 hE2 hb2 => LD_iiss (hb1.ext hE2) ?_
  have hE := hE1.trans hE2
  replace h := h.ext hE
  replace h' := h'.ext hE
  replace hf := hf.ext hE
  refine call (sEliminateRound_ok h) ?_
  rintro x y z u a1 a2 b w3 ⟨hE3, hr⟩
  replace hE := hE.ext hE3
  replace h' := h'.ext hE3
  replace hf := hf.ext hE3
  replace hb2 := hb2.ext hE3
  refine NEW_ST (one4p _ _ _ _) rfl fun pr w5 hp5 hE5 hb5 => ?_
  replace hE := hE.ext hE5
  replace h' := h'.ext hE5
  replace hf := hf.ext hE5
  replace hb2 := hb2.ext hE5
  rcases hr with ⟨rfl, hgd, rfl, rfl, hP⟩ | ⟨rfl, hno⟩
  · replace hP := hP.ext hE5
    refine cond_t rfl (LD_iiss hb5 (LD_iiss hb2 ?_))
    refine call (reMap_ok (p := roundP p) (q := q) hP.prob h' (made_round hgd.1 hgd.2) hq hf) ?_
    rintro v w6 ⟨hv, hE6⟩
    exact ⟨hv.trans ⟨fun hm => ⟨hgd, hm⟩, fun hA => hA.2⟩, hE.trans hE6⟩
  · exact cond_f rfl ⟨by simp only [Bool.false_eq_true, false_iff]; exact fun hA => hno hA.1, hE⟩

theorem isRightBound_ok {w : World} {a b c : Sl} {B : Bnd} (h : RBnd w a b c B) (hs : SmallB B) (hps : PsOk B.ps) :
    Calls Tryz.prog F.i_isRightBound #[.agg #[a.v, b.v, c.v]] w (Ret [.at .bool] fun (x : Bool) w' => (x = true ↔ Right B) ∧ Ext w w') := by
  refine C_i_isRightBound ?_
  unfold V_i_isRightBound
  refine NEW_intro fun pb w1 hp1 hs1 hE hb => LD_bs0 hb (LD_bs1 hb ?_)
  replace h := h.ext hE
  have hl := hps.1
  rw [h.ps.len, h.maps.len, wrap_of (by omega) (by omega)]
  have hno : ∀ {w' : World}, Ext w w' → ¬ Right B → (false = true ↔ Right B) ∧ Ext w w' := fun h1 h2 => ⟨by simp [h2], h1⟩
  refine cond_ne (fun hne => hno hE fun hR => hne (by have := hR.len; show (B.maps.length : Int) = (B.ps.length : Int) - 1; omega)) (fun heq => LD_bs1 hb ?_)
  have hlen : B.maps.length + 1 = B.ps.length := by have : (B.maps.length : Int) = (B.ps.length : Int) - 1 := heq; omega
  rw [h.maps.len]
  refine ⟨IN B.maps.length fun i w' => Ext w1 w' ∧ ∀ j, j < i → ∀ (h1 : j < B.maps.length) (h2 : j + 1 < B.ps.length), StOk (B.ps[j]'(by omega)) B.ps[j + 1] B.maps[j], MN B.maps.length, IN_zero ⟨Ext.refl _, fun j hj => absurd hj (by omega)⟩, ?_⟩
  rintro _ w2 ⟨i, rfl, hi, hE2, hI⟩
  intros
  replace hE := hE.ext hE2
  replace h := h.ext hE2
  replace hb := hb.ext hE2
  refine cond_dec (fun hlt => ?_) (fun hge => ?_)
  · have hi' : i < B.maps.length := by omega
    have hip : i < B.ps.length := by omega
    have hiq : i + 1 < B.ps.length := by omega
    have hg := hps.2 _ (List.getElem_mem hip)
    have hg2 := hps.2 _ (List.getElem_mem hiq)
    refine h.maps.ixL hi' fun q0 row hrow hc => LD_sl hc (LD_bs0 hb ?_)
    refine slr_ixP h.ps hip fun q1 z1 u1 hP1 hc1 => LD_pcells hc1 ?_
    refine call (eliminate_ok hP1 (hs.ps _ (List.getElem_mem hip)) hg.1) ?_
    rintro x y z u a1 a2 bb w3 ⟨hE3, hr⟩
    refine NEW_ST (one4p _ _ _ _) rfl fun pq w5 hp5 hE5 hb5 => ?_
    have hE35 := hE3.trans hE5
    rcases hr with ⟨rfl, hfw, rfl, rfl, hP⟩ | ⟨rfl, hnf⟩
    · replace hP := hP.ext hE5
      refine cond_not (fun hf => by cases hf) (fun _ => LD_iiss hb5 (LD_bs0 (hb.ext hE35) ?_))
      have e1 : IntKind.i64.wrap ((i : Int) + 1) = ((i + 1 : Nat) : Int) := by rw [wrap_of (by omega) (by omega)]; omega
      rw [e1]
      refine slr_ixP (h.ps.ext hE35) hiq fun q2 z2 u2 hP2 hc2 => LD_pcells hc2 ?_
      refine QCALL_prop (A := MapOk (roundP B.ps[i]) B.ps[i + 1] B.maps[i]) (fun w' hw' => isLabelMap_ok (p := roundP B.ps[i]) (q := B.ps[i + 1]) (hP.prob.ext hw') (hP2.ext hw') (made_round hg.1 hfw) hg2.1 (small_round hg.1 hfw) (hs.ps _ (List.getElem_mem hiq)) ((hrow.any.ext hE35).ext hw')) fun v hv => ?_
      intro w7 hE7
      refine cond_not (fun hf => hno (hE.trans (hE35.trans hE7)) fun hR => by rw [hv.2 (hR.step i hi' hiq).2] at hf; cases hf) (fun ht => ?_)
      refine ⟨⟨i + 1, rfl, hi', hE2.trans (hE35.trans hE7), fun j hj h1 h2 => ?_⟩, by unfold MN; omega⟩
      by_cases hji : j = i
      · subst hji; exact ⟨⟨hg.1, hfw⟩, hv.1 ht⟩
      · exact hI j (by omega) h1 h2
    · refine cond_not (fun _ => fun w6 hE6 => hno (hE.trans (hE35.trans hE6)) fun hR => hnf (hR.step i hi' hiq).1.2) (fun ht => by cases ht)
  · have : i = B.maps.length := by omega
    subst this
    have hlast : B.ps.length - 1 < B.ps.length := by omega
    have e1 : (B.ps.length : Int) - 1 = ((B.ps.length - 1 : Nat) : Int) := by omega
    refine LD_bs0 hb ?_
    rw [e1]
    refine slr_ixP h.ps hlast fun q1 z1 u1 hP1 hc1 => LD_pcells hc1 (LD_bs2 hb ?_)
    refine QCALL_prop (fun w' hw' => isZeroRefusal_ok (hP1.ext hw') (hps.2 _ (List.getElem_mem hlast)).1 (hs.ps _ (List.getElem_mem hlast)) (h.pairs.ext hw')) fun v hv => ?_
    intro w8 hE8
    refine ⟨?_, hE.trans hE8⟩
    refine ⟨fun ht => ⟨hlen, fun j h1 h2 => hI j h1 h1 h2, fun j hj hjl => ?_⟩, fun hR => hv.2 (hR.zero _ hlast (by omega))⟩
    have hjj : j = B.ps.length - 1 := by omega
    subst hjj
    exact hv.1 ht

end Go.Proofs.YtndebacmnpghkaaGreat
end

section
/- Whether a bound is right: the reference; CheckBound and BoundOf, both sides. -/
namespace Go.Proofs.YtndebacmnpghkaaGreat
open Go.GX Go.RowKit
set_option maxRecDepth 100000

theorem boRight_ok {w : World} {a b c : Sl} {B : Bnd} (h : RBnd w a b c B) (hps : PsOk B.ps) :
    Calls Tryz.prog F.s_boRight #[.agg #[a.v, b.v, c.v]] w (Ret [.at .bool] fun (x : Bool) w' => (x = true ↔ Right B) ∧ Ext w w') := by
  refine C_s_boRight ?_
  unfold V_s_boRight
  refine NEW_intro fun pb w1 hp1 hs1 hE hb => LD_bs0 hb (LD_bs1 hb ?_)
  replace h := h.ext hE
  have hl := hps.1
  rw [h.ps.len, h.maps.len, wrap_of (by omega) (by omega)]
  have hno : ∀ {w' : World}, Ext w w' → ¬ Right B → (false = true ↔ Right B) ∧ Ext w w' := fun h1 h2 => ⟨by simp [h2], h1⟩
  refine cond_ne (fun hne => fun w2 hE2 => hno (hE.trans hE2) fun hR => hne (by have := hR.len; show (B.maps.length : Int) = (B.ps.length : Int) - 1; omega)) (fun heq => LD_bs0 hb ?_)
  have hlen : B.maps.length + 1 = B.ps.length := by have : (B.maps.length : Int) = (B.ps.length : Int) - 1 := heq; omega
  have hlast : B.ps.length - 1 < B.ps.length := by omega
  have e0 : (B.ps.length : Int) - 1 = ((B.ps.length - 1 : Nat) : Int) := by omega
  rw [e0]
  refine slr_ixP h.ps hlast fun q1 z1 u1 hP1 hc1 => LD_pcells hc1 (LD_bs2 hb ?_)
  refine QCALL_prop (fun w' hw' => boZero_ok (hP1.ext hw') (hps.2 _ (List.getElem_mem hlast)).1 (h.pairs.ext hw')) fun v hv => ?_
  intro w3 hE3
  replace hE := hE.ext hE3
  replace h := h.ext hE3
  replace hb := hb.ext hE3
  refine cond_not (fun hf => hno hE fun hR => by rw [hv.2 (hR.zero _ hlast (by omega))] at hf; cases hf) (fun ht0 => ?_)
  unfold V_s_boRight_k1
  refine LD_bs1 hb ?_
  rw [h.maps.len]
  refine ⟨IN B.maps.length fun i w' => Ext w3 w' ∧ ∀ j, j < i → ∀ (h1 : j < B.maps.length) (h2 : j + 1 < B.ps.length), StOk (B.ps[j]'(by omega)) B.ps[j + 1] B.maps[j], MN B.maps.length, IN_zero ⟨Ext.refl _, fun j hj => absurd hj (by omega)⟩, ?_⟩
  rintro _ w5 ⟨i, rfl, hi, hE5, hI⟩
  intros
  replace hE := hE.ext hE5
  replace h := h.ext hE5
  replace hb := hb.ext hE5
  refine cond_dec (fun hlt => ?_) (fun hge => ?_)
  · have hi' : i < B.maps.length := by omega
    have hip : i < B.ps.length := by omega
    have hiq : i + 1 < B.ps.length := by omega
    refine h.maps.ixL hi' fun q0 row hrow hc => LD_sl hc (LD_bs0 hb ?_)
    refine slr_ixP h.ps hip fun q1 z1 u1 hP1 hc1 => LD_pcells hc1 (LD_bs0 hb ?_)
    have e1 : IntKind.i64.wrap ((i : Int) + 1) = ((i + 1 : Nat) : Int) := by rw [wrap_of (by omega) (by omega)]; omega
    rw [e1]
    refine slr_ixP h.ps hiq fun q2 z2 u2 hP2 hc2 => LD_pcells hc2 ?_
    refine QCALL_prop (fun w' hw' => boStep_ok (hP1.ext hw') (hP2.ext hw') (hps.2 _ (List.getElem_mem hiq)).1 (hrow.any.ext hw')) fun v2 hv2 => ?_
    intro w6 hE6
    refine cond_not (fun hf => hno (hE.trans hE6) fun hR => by rw [hv2.2 (hR.step i hi' hiq)] at hf; cases hf) (fun ht => ?_)
    refine ⟨⟨i + 1, rfl, hi', hE5.trans hE6, fun j hj h1 h2 => ?_⟩, by unfold MN; omega⟩
    by_cases hji : j = i
    · subst hji; exact hv2.1 ht
    · exact hI j (by omega) h1 h2
  · have : i = B.maps.length := by omega
    subst this
    refine ⟨?_, hE⟩
    simp only [true_iff]
    refine ⟨hlen, fun j h1 h2 => hI j h1 h1 h2, fun j hj hjl => ?_⟩
    have hjj : j = B.ps.length - 1 := by omega
    subst hjj
    exact hv.1 ht0

def BdAns (B : Bnd) (x ok : Bool) : Prop := (ok = true ↔ PsOk B.ps) ∧ (x = true ↔ PsOk B.ps ∧ Right B)
theorem BdAns.eq {B : Bnd} {x ok y ok' : Bool} (h : BdAns B x ok) (h' : BdAns B y ok') : x = y ∧ ok = ok' := ⟨by rw [Bool.eq_iff_iff, h.2, h'.2], by rw [Bool.eq_iff_iff, h.1, h'.1]⟩

theorem CheckBound_ok {w : World} {a b c : Sl} {B : Bnd} (h : RBnd w a b c B) (hs : SmallB B) :
    Calls Tryz.prog F.i_CheckBound #[.agg #[a.v, b.v, c.v]] w (Ret [.at .bool, .at .bool] fun (x : Bool) (ok : Bool) w' => BdAns B x ok ∧ Ext w w') := by
  refine C_i_CheckBound ?_
  unfold V_i_CheckBound
  refine NEW_intro fun pb w1 hp1 hs1 hE hb => LD_bs0 hb ?_
  replace h := h.ext hE
  refine call (problemsOk_ok h.ps) ?_
  rintro x w2 ⟨hx, hE2⟩
  replace hE := hE.ext hE2
  replace h := h.ext hE2
  replace hb := hb.ext hE2
  refine cond_not (fun hf => ⟨⟨?_, ?_⟩, hE⟩) (fun ht => LD_box3 hb ?_)
  · simp only [Bool.false_eq_true, false_iff]; exact fun hA => by rw [hx.2 hA] at hf; cases hf
  · simp only [Bool.false_eq_true, false_iff]; exact fun hA => by rw [hx.2 hA.1] at hf; cases hf
  · have hp := hx.1 ht
    refine call (isRightBound_ok h hs hp) ?_
    rintro y w3 ⟨hy, hE3⟩
    exact ⟨⟨⟨fun _ => hp, fun _ => rfl⟩, hy.trans ⟨fun hr => ⟨hp, hr⟩, fun hA => hA.2⟩⟩, hE.trans hE3⟩


def BoAns (B : Bnd) (n : Int) (ok : Bool) : Prop := AnsG (PsOk B.ps ∧ Right B) (B.maps.length : Int) 0 n ok

theorem BoundOf_ok {w : World} {a b c : Sl} {B : Bnd} (h : RBnd w a b c B) (hs : SmallB B) :
    Calls Tryz.prog F.i_BoundOf #[.agg #[a.v, b.v, c.v]] w (Ret [.at (.int .i64), .at .bool] fun (n : Int) (ok : Bool) w' => BoAns B n ok ∧ Ext w w') := by
  refine C_i_BoundOf ?_
  unfold V_i_BoundOf
  refine NEW_intro fun pb w1 hp1 hs1 hE hb => LD_box3 hb ?_
  replace h := h.ext hE
  refine call (CheckBound_ok h hs) ?_
  rintro x ok w2 ⟨hx, hE2⟩
  replace hE := hE.ext hE2
  replace h := h.ext hE2
  replace hb := hb.ext hE2
  refine cond_not (fun hf => ⟨.no fun hA => (by rw [hx.2.2 hA] at hf; cases hf), hE⟩) (fun ht => ?_)
  have hA := hx.2.1 ht
  refine cond_not (fun hf => ⟨.no fun _ => (by rw [hx.1.2 hA.1] at hf; cases hf), hE⟩) (fun _ => LD_bs1 hb ?_)
  rw [h.maps.len]
  exact ⟨.yes hA, hE⟩

end Go.Proofs.YtndebacmnpghkaaGreat
end

section
/- The laws' arguments that are bounds, read as data. -/
namespace Go.Proofs.YtndebacmnpghkaaGreat
open Go.GX Go.RowKit
set_option maxRecDepth 100000

theorem reads_prob : Reads Tryz.prog T.t_l_Problem Prob := fun h => by
  obtain ⟨hl, hx⟩ := trod_fields (ts := [T.t_int, T.t_int, T.t_sl_sl_int, T.t_sl_sl_int]) (by kernel_rfl) h
  obtain ⟨v0, n0, y0, hv0, ht0⟩ := hx 0 T.t_int rfl
  obtain ⟨v1, n1, y1, hv1, ht1⟩ := hx 1 T.t_int rfl
  obtain ⟨v2, n2, y2, hv2, ht2⟩ := hx 2 T.t_sl_sl_int rfl
  obtain ⟨v3, n3, y3, hv3, ht3⟩ := hx 3 T.t_sl_sl_int rfl
  obtain ⟨a, ha, hA⟩ := reads_int ht0
  obtain ⟨b, hb, hB⟩ := reads_int ht1
  obtain ⟨y, c, hc, hC⟩ := reads_intss ht2
  obtain ⟨z, e, he, hE⟩ := reads_intss ht3
  simp only [List.cons.injEq, and_true] at ha hb hc he
  subst ha; subst hb; subst hc; subst he
  refine ⟨⟨a, b, y, z⟩, c, e, ?_, hA, hB, hC, hE⟩
  apply List.ext_getElem?
  intro i
  match i with
  | 0 => simpa using hv0
  | 1 => simpa using hv1
  | 2 => simpa using hv2
  | 3 => simpa using hv3
  | i + 4 => simp at hl; simp [hl]

theorem reads_probs : Reads Tryz.prog T.t_sl_l_Problem (List Prob) := Reads.slice (e := T.t_l_Problem) (by kernel_rfl) (by kernel_rfl) reads_prob

variable {H : Type} {enc : TypeId × Value → H} {w : World} {base b0 : Nat} {spare : Nat → Bool} {held : Bool} {v : Value} {d : DataW H} {p : List MemPlace}

theorem open_B {r} (hv : Value.okWide Tryz.prog w r b0 T.t_l_Bound v) (h : DataW.Trod enc Tryz.prog w base spare held T.t_l_Bound v d p) : ∃ (a b c : Sl) (B : Bnd), v = .agg #[a.v, b.v, c.v] ∧ RBnd w a b c B := by
  obtain ⟨a, b, c, x, y, z, rfl, h1, h2, h3⟩ := open_three (u0 := T.t_sl_l_Problem) (u1 := T.t_sl_sl_int) (u2 := T.t_sl_sl_int) (by kernel_rfl) reads_probs reads_intss reads_intss hv h
  exact ⟨a, b, c, ⟨x, y, z⟩, rfl, h1, h2, h3⟩

end Go.Proofs.YtndebacmnpghkaaGreat
end

section
/- Lists of problems and bounds of the call's own: what marks do to them. -/
namespace Go.GX
open Go.RowKit

/-- One cell of a record is written. -/
theorem ST_field {α : Type} [Flat α] {w : World} {base : Nat} {e : TypeId} {s : Sl} {l : List α} (h : OwnL w base e s l) {i : Nat} (hi : i < l.length) {p : Addr} (hp : Plc s i (Rep.sz α) p) {off : Nat} (hoff : off < Rep.sz α) {v : Value} (hv1 : v.oneCell' = true) (x : α) (hx : Flat.cells x = (Flat.cells l[i]).set off v) {K : World → Prop}
    (hk : ∀ w', OwnL w' base e s (l.set i x) → Step w w' s.v.ownBlock → K w') : ST (p.add off) 0 [v] w K := by
  obtain ⟨a, ha, rfl⟩ := hp
  rcases h.2.2 with ⟨hv, h0⟩ | ⟨g, cap, cur, hv, _⟩
  · rw [h.1] at h0; omega
  · have hv' := hv
    simp [Sl.v] at hv
    obtain ⟨hsa, rfl⟩ := hv
    rw [hsa] at ha; cases ha
    have hown : w.ownsRow base e (Rep.sz α) (.slice (some ⟨g, 0, none⟩) s.len s.cap) s.len (l.flatMap Flat.cells) := by
      have := h.2; unfold Own at this; rw [hv'] at this; exact this
    have hlen : (l.flatMap Flat.cells).length = l.length * Rep.sz α := by have := h.2.length; rwa [h.1] at this
    have hle : (i + 1) * Rep.sz α ≤ l.length * Rep.sz α := Nat.mul_le_mul_right _ hi
    rw [Nat.succ_mul] at hle
    refine setMany_own [v] (i * Rep.sz α + off) _ w K hown (by simpa using hv1) (by rw [hlen, List.length_singleton]; omega) (fun w' hw' hs => hk w' ⟨by simp [h.1], ?_⟩ (by rw [hv']; exact hs)) _ 0 (by rw [add_zero', add_add]; simp only [Addr.add]; split <;> simp_all)
    unfold Own
    rw [hv', flat_set l hi x, hx]
    have hcl : (Flat.cells l[i]).length = Rep.sz α := Flat.size _
    have e1 : l.flatMap Flat.cells = (l.flatMap Flat.cells).take (i * Rep.sz α) ++ Flat.cells l[i] ++ (l.flatMap Flat.cells).drop (i * Rep.sz α + (Flat.cells l[i]).length) := by
      have := flat_set l hi l[i]
      rwa [List.set_getElem_self] at this
    have e2 : (l.flatMap Flat.cells).take (i * Rep.sz α + off) ++ [v] ++ (l.flatMap Flat.cells).drop (i * Rep.sz α + off + 1) = (l.flatMap Flat.cells).set (i * Rep.sz α + off) v := by
      rw [List.set_eq_take_append_cons_drop, if_pos (by omega)]
      simp
    rw [List.length_singleton, e2] at hw'
    rw [e1, List.set_append_left _ _ (by rw [List.length_append, List.length_take, hcl]; omega), List.set_append_right _ _ (by rw [List.length_take]; omega)] at hw'
    rw [List.length_take, Nat.min_eq_left (by omega), Nat.add_sub_cancel_left] at hw'
    rw [List.length_set]
    exact hw'

end Go.GX
namespace Go.Proofs.YtndebacmnpghkaaGreat
open Go.GX Go.RowKit
set_option maxRecDepth 100000

/-! ### Matrices whose blocks have an owner -/

structure InB (base top : Nat) (own : Nat → Nat) (i : Nat) (w : World) (s : Sl) (L : List (List Int)) : Prop where
  ex : ∃ ss : List Sl, RowsD w base T.t_int T.t_sl_int s L ss ∧ ∀ b, MB s ss b → own b = i ∧ b < top
  i64 : ∀ r ∈ L, ∀ x ∈ r, I64 x
  rows : L.length ≤ 1048576
  small : ∀ r ∈ L, r.length ≤ 1048576

section
variable {base top : Nat} {own : Nat → Nat} {i : Nat} {w w' : World} {s : Sl} {L : List (List Int)}

theorem InB.rep (h : InB base top own i w s L) : R w s L := by
  obtain ⟨ss, hM, _⟩ := h.ex
  exact hM.rep h.i64
theorem InB.keep (h : InB base top own i w s L) (hk : ∀ b, own b = i → base ≤ b → b < top → b < w.heap.size → w'.heap[b]? = w.heap[b]?) : InB base top own i w' s L := by
  obtain ⟨ss, hM, hb⟩ := h.ex
  exact ⟨⟨ss, hM.keepB fun b hB => hk b (hb b hB).1 (hM.blk hB).1 (hb b hB).2 (hM.blk hB).2, hb⟩, h.i64, h.rows, h.small⟩
theorem InB.away (h : InB base top own i w s L) {D : Nat → Prop} (hC : Chg w w' D) (hd : ∀ b, own b = i → base ≤ b → b < top → ¬ D b) : InB base top own i w' s L :=
  h.keep fun b h1 h2 h3 h4 => hC.block b h4 (hd b h1 h2 h3)
theorem InB.ext (h : InB base top own i w s L) (hE : Ext w w') : InB base top own i w' s L := h.away (Chg.of_ext (D := fun _ => False) hE) fun _ _ _ _ h => h
theorem InB.reown (h : InB base top own i w s L) {own' : Nat → Nat} {i' : Nat} (ho : ∀ b, base ≤ b → b < w.heap.size → b < top → own b = i → own' b = i') : InB base top own' i' w s L := by
  obtain ⟨ss, hM, hb⟩ := h.ex
  exact ⟨⟨ss, hM, fun b hB => ⟨ho b (hM.blk hB).1 (hM.blk hB).2 (hb b hB).2 (hb b hB).1, (hb b hB).2⟩⟩, h.i64, h.rows, h.small⟩
theorem InB.upTo (h : InB base top own i w s L) {t : Nat} (ht : top ≤ t) : InB base t own i w s L := by
  obtain ⟨ss, hM, hb⟩ := h.ex
  exact ⟨⟨ss, hM, fun b hB => ⟨(hb b hB).1, by have := (hb b hB).2; omega⟩⟩, h.i64, h.rows, h.small⟩
theorem InB.low (h : InB base top own i w s L) {b : Nat} (hb : b ≤ base) : InB b top own i w s L := by
  obtain ⟨ss, hM, ho⟩ := h.ex
  exact ⟨⟨ss, hM.low hb, ho⟩, h.i64, h.rows, h.small⟩
theorem InB.of (h : OutM base w s L) (ho : ∀ b, base ≤ b → b < w.heap.size → own b = i) : InB base w.heap.size own i w s L := by
  obtain ⟨ss, hM⟩ := h.ex
  exact ⟨⟨ss, hM, fun b hB => ⟨ho b (hM.blk hB).1 (hM.blk hB).2, (hM.blk hB).2⟩⟩, h.i64, h.rows, h.small⟩
theorem InB.nil (base top : Nat) (own : Nat → Nat) (i : Nat) (w : World) : InB base top own i w ⟨none, 0, 0⟩ [] := ⟨⟨[], RowsD.nil _ _ _ _, fun b hB => by
  rcases hB with hB | ⟨r, hr, _⟩
  · cases hB
  · cases hr⟩, by simp, by simp, by simp⟩

theorem InB.mark (h : InB base top own i w s L) (k : Int) (h0 : 0 ≤ k) (h1 : k ≤ 112589990684262400) :
    Calls Tryz.prog F.l_markIntSS #[s.v, .int .i64 k] w (Ret [.at (.int .i64)] fun (r : Int) w' => r = k + pre L L.length ∧ InB base top own i w' s (marks2 k L) ∧ Chg w w' (fun b => own b = i ∧ base ≤ b ∧ b < top)) := by
  obtain ⟨ss, hM, hb⟩ := h.ex
  refine call (markIntSS_rows hM h.rows h.small k h0 (by omega)) ?_
  rintro r w' ⟨hr, hM', hC⟩
  refine ⟨hr, ⟨⟨ss, hM', hb⟩, marks2_I64 h0 (by omega) h.rows h.small, by rw [marks2_len]; exact h.rows, fun q hq => ?_⟩, hC.mono fun b hB => ⟨(hb b (.inr hB)).1, (hM.blk (.inr hB)).1, (hb b (.inr hB)).2⟩⟩
  obtain ⟨j, hj, rfl⟩ := List.mem_iff_getElem.1 hq
  have hjL : j < L.length := by rwa [marks2_len] at hj
  rw [marks2_get hjL, marks_length]
  exact h.small _ (List.getElem_mem hjL)
end

/-! ### Lists of problems -/

def szP (q : Prob) : Nat := 2 + pre q.nodes q.nodes.length + pre q.edges q.edges.length
def preP (l : List Prob) (i : Nat) : Nat := ((l.take i).map szP).sum
def markPr (k : Int) (q : Prob) : Prob := ⟨k, k + 1, marks2 (k + 2) q.nodes, marks2 (k + 2 + pre q.nodes q.nodes.length) q.edges⟩
/-- The first problems marked. -/
def marksP (k : Int) (l : List Prob) (i : Nat) : List Prob := (List.range l.length).map fun j => if j < i then markPr (k + preP l j) (l.getD j ⟨0, 0, [], []⟩) else l.getD j ⟨0, 0, [], []⟩

theorem preP_succ {l : List Prob} {i : Nat} (hi : i < l.length) : preP l (i + 1) = preP l i + szP l[i] := by
  unfold preP
  rw [List.take_succ_eq_append_getElem hi, List.map_append, List.sum_append]
  simp
theorem preP_le {l : List Prob} {i : Nat} (hi : i ≤ l.length) : preP l i ≤ preP l l.length := by
  obtain ⟨k, hk⟩ : ∃ k, l.length = i + k := ⟨l.length - i, by omega⟩
  clear hi
  rw [hk]
  have : ∀ k, i + k ≤ l.length → preP l i ≤ preP l (i + k) := by
    intro k
    induction k with
    | zero => intro _; exact Nat.le_refl _
    | succ k ih =>
      intro h
      have h1 := ih (by omega)
      have h2 := preP_succ (l := l) (i := i + k) (by omega)
      rw [← Nat.add_assoc, h2]
      omega
  exact this k (by omega)
theorem marksP_len (k : Int) (l : List Prob) (i : Nat) : (marksP k l i).length = l.length := by simp [marksP]
theorem marksP_get {k : Int} {l : List Prob} {i j : Nat} (hj : j < l.length) : (marksP k l i)[j]'(by rw [marksP_len]; exact hj) = if j < i then markPr (k + preP l j) l[j] else l[j] := by
  simp [marksP, hj]
theorem marksP_zero (k : Int) (l : List Prob) : marksP k l 0 = l := by
  apply List.ext_getElem
  · rw [marksP_len]
  · intro j h1 h2
    rw [marksP_get h2, if_neg (by omega)]

structure RecB (base top : Nat) (own : Nat → Nat) (j : Nat) (w : World) (r : PRec) (q : Prob) : Prop where
  x : r.x = q.labels
  y : r.y = q.degree
  lab : I64 q.labels
  deg : I64 q.degree
  nodes : InB base top own (2 * j + 3) w r.z q.nodes
  edges : InB base top own (2 * j + 4) w r.u q.edges

structure OutPS (base top : Nat) (own : Nat → Nat) (w : World) (s : Sl) (l : List Prob) : Prop where
  ex : ∃ rs : List PRec, OwnL w base T.t_i_Problem s rs ∧ rs.length = l.length ∧ (∀ b, s.v.ownBlock = some b → own b = 2 ∧ b < top) ∧ ∀ j (h1 : j < rs.length) (h2 : j < l.length), RecB base top own j w rs[j] l[j]
  len : l.length ≤ 1048576

section
variable {base top : Nat} {own : Nat → Nat} {w w' : World} {s : Sl} {l : List Prob}

theorem RecB.keep {j : Nat} {r : PRec} {q : Prob} (h : RecB base top own j w r q) (hk : ∀ b, 2 < own b → base ≤ b → b < top → b < w.heap.size → w'.heap[b]? = w.heap[b]?) : RecB base top own j w' r q :=
  ⟨h.x, h.y, h.lab, h.deg, h.nodes.keep fun b hb => hk b (by omega), h.edges.keep fun b hb => hk b (by omega)⟩
theorem RecB.away {j : Nat} {r : PRec} {q : Prob} (h : RecB base top own j w r q) {D : Nat → Prop} (hC : Chg w w' D) (hd : ∀ b, 2 < own b → base ≤ b → b < top → ¬ D b) : RecB base top own j w' r q :=
  h.keep fun b h1 h2 h3 h4 => hC.block b h4 (hd b h1 h2 h3)
theorem RecB.ext {j : Nat} {r : PRec} {q : Prob} (h : RecB base top own j w r q) (hE : Ext w w') : RecB base top own j w' r q :=
  ⟨h.x, h.y, h.lab, h.deg, h.nodes.ext hE, h.edges.ext hE⟩
theorem RecB.grow {j : Nat} {r : PRec} {q : Prob} (h : RecB base top own j w r q) {own' : Nat → Nat} {t : Nat} (ho : ∀ b, base ≤ b → b < top → own' b = own b) (ht : top ≤ t) : RecB base t own' j w r q :=
  ⟨h.x, h.y, h.lab, h.deg, (h.nodes.reown fun b h1 _ h2 h3 => (ho b h1 h2).trans h3).upTo ht, (h.edges.reown fun b h1 _ h2 h3 => (ho b h1 h2).trans h3).upTo ht⟩
theorem OutPS.keep (h : OutPS base top own w s l) (hk : ∀ b, 2 ≤ own b → base ≤ b → b < top → b < w.heap.size → w'.heap[b]? = w.heap[b]?) : OutPS base top own w' s l := by
  obtain ⟨rs, hO, hl, hb, hr⟩ := h.ex
  exact ⟨⟨rs, hO.keep fun b hB => hk b (by have := (hb b hB).1; omega) (hO.blk b hB).1 (hb b hB).2 (hO.blk b hB).2, hl, hb, fun j h1 h2 => (hr j h1 h2).keep fun b hB => hk b (by omega)⟩, h.len⟩
theorem OutPS.away (h : OutPS base top own w s l) {D : Nat → Prop} (hC : Chg w w' D) (hd : ∀ b, 2 ≤ own b → base ≤ b → b < top → ¬ D b) : OutPS base top own w' s l :=
  h.keep fun b h1 h2 h3 h4 => hC.block b h4 (hd b h1 h2 h3)
theorem OutPS.grow (h : OutPS base top own w s l) {own' : Nat → Nat} {t : Nat} (ho : ∀ b, base ≤ b → b < top → own' b = own b) (ht : top ≤ t) : OutPS base t own' w s l := by
  obtain ⟨rs, hO, hl, hb, hr⟩ := h.ex
  exact ⟨⟨rs, hO, hl, fun b hB => ⟨(ho b (hO.blk b hB).1 (hb b hB).2).trans (hb b hB).1, by have := (hb b hB).2; omega⟩, fun j h1 h2 => (hr j h1 h2).grow ho ht⟩, h.len⟩
theorem OutPS.ext (h : OutPS base top own w s l) (hE : Ext w w') : OutPS base top own w' s l := h.away (Chg.of_ext (D := fun _ => False) hE) fun _ _ _ _ h => h
theorem OutPS.rep (h : OutPS base top own w s l) : R w s l := by
  obtain ⟨rs, hO, hl, hb, hr⟩ := h.ex
  exact (recs_rep (D := fun _ => True) hO hl (fun j h1 h2 => have hR := hr j h1 h2; ⟨hR.x, hR.y, hR.lab, hR.deg, hR.nodes.rep, hR.edges.rep⟩) (fun b hb => hb) fun b _ => trivial)

end
end Go.Proofs.YtndebacmnpghkaaGreat
end

section
/- Bounds as arguments, counted and copied: what is measured, and copies that lie apart. -/
namespace Go.Proofs.YtndebacmnpghkaaGreat
open Go.GX Go.RowKit
set_option maxRecDepth 100000

theorem szIntS_sum {w : World} {a : Sl} {l : List Int} (h : R w a l) (left : Int) (h0 : 0 ≤ left) (h1 : left ≤ 1048576) :
    Calls Tryz.prog F.l_szIntS #[a.v, .int .i64 left] w (Ret [.at (.int .i64)] fun (x : Int) w' => (0 ≤ x → x + l.length ≤ left) ∧ w = w') := by
  refine C_l_szIntS ?_
  unfold V_l_szIntS
  have := h.le
  rw [h.len, wrap_of (by omega) (by omega)]
  exact cond_dec (fun _ => ⟨by omega, rfl⟩) (fun _ => ⟨by omega, rfl⟩)

theorem szIntSS_sum {w : World} {a : Sl} {l : List (List Int)} (h : R w a l) (left : Int) (h0 : 0 ≤ left) (h1 : left ≤ 1048576) :
    Calls Tryz.prog F.l_szIntSS #[a.v, .int .i64 left] w (Ret [.at (.int .i64)] fun (x : Int) w' => (0 ≤ x → x + l.length + pre l l.length ≤ left ∧ ∀ r ∈ l, r.length ≤ left) ∧ w = w') := by
  refine C_l_szIntSS ?_
  unfold V_l_szIntSS
  have := h.le
  rw [h.len, wrap_of (by omega) (by omega)]
  refine cond_dec (fun _ => ⟨by omega, rfl⟩) (fun hle => ?_)
  refine ⟨fun y x w' => w = w' ∧ 0 ≤ y ∧ ∃ i : Nat, x = i ∧ i ≤ l.length ∧ y + l.length + pre l i ≤ left ∧ ∀ r ∈ l.take i, r.length ≤ left, fun _ x _ => l.length - x.toNat, ⟨rfl, by omega, 0, rfl, by omega, by rw [pre_zero]; omega, by simp⟩, ?_⟩
  rintro y x _ ⟨rfl, hy0, i, rfl, hi, hy, hr⟩
  intros
  refine cond_dec (fun hlt => ?_) (fun hge => ⟨fun _ => ?_, rfl⟩)
  · have hlt' : i < l.length := by omega
    refine h.ixL hlt' fun p s' hs' hc => LD_sl hc ?_
    refine call (szIntS_sum hs'.any y hy0 (by omega)) ?_
    rintro x _ ⟨hx, rfl⟩
    refine cond_dec (fun _ => ⟨by omega, rfl⟩) (fun hn => ?_)
    have hx' := hx (by omega)
    rw [wrap_of (by omega) (by omega)]
    refine ⟨⟨rfl, by omega, i + 1, by omega, hlt', by rw [pre_succ hlt']; omega, fun r hr' => ?_⟩, by simp only []; omega⟩
    rw [List.take_succ_eq_append_getElem hlt'] at hr'
    rcases List.mem_append.1 hr' with h3 | h3
    · exact hr r h3
    · rw [List.mem_singleton.1 h3]; omega
  · have : i = l.length := by omega
    subst this
    rw [List.take_length] at hr
    exact ⟨hy, hr⟩

theorem szProblem_sum {w : World} {c d : Sl} {p : Prob} (h : RProb w c d p) (left : Int) (h0 : 0 ≤ left) (h1 : left ≤ 1048576) :
    Calls Tryz.prog F.l_szProblem #[.agg #[.int .i64 p.labels, .int .i64 p.degree, c.v, d.v], .int .i64 left] w (Ret [.at (.int .i64)] fun (x : Int) w' => (0 ≤ x → SmallP p ∧ x + szP p ≤ left + 2) ∧ Ext w w') := by
  refine C_l_szProblem ?_
  unfold V_l_szProblem
  refine NEW_intro fun pa w1 hp hs hE hb => LD_bs2 hb ?_
  replace h := h.ext hE
  refine call (szIntSS_sum h.nodes left h0 h1) ?_
  rintro x _ ⟨hx, rfl⟩
  refine cond_dec (fun hn => ⟨fun h => by omega, hE⟩) (fun hnn => LD_bs3 hb ?_)
  obtain ⟨a2, a3⟩ := hx (by omega)
  refine call (szIntSS_sum h.edges x (by omega) (by omega)) ?_
  rintro y _ ⟨hy, rfl⟩
  refine cond_dec (fun hn => ⟨fun h => by omega, hE⟩) (fun hnn2 => ⟨fun _ => ?_, hE⟩)
  obtain ⟨b2, b3⟩ := hy (by omega)
  exact ⟨⟨⟨by omega, fun r hr => by have := a3 r hr; omega⟩, ⟨by omega, fun r hr => by have := b3 r hr; omega⟩⟩, by unfold szP; omega⟩

theorem szProblemS_sum {w : World} {a : Sl} {l : List Prob} (h : R w a l) (left : Int) (h0 : 0 ≤ left) (h1 : left ≤ 1048576) :
    Calls Tryz.prog F.l_szProblemS #[a.v, .int .i64 left] w (Ret [.at (.int .i64)] fun (x : Int) w' => (0 ≤ x → x + preP l l.length ≤ left + l.length ∧ l.length + x ≤ left ∧ ∀ q ∈ l, SmallP q) ∧ Ext w w') := by
  refine C_l_szProblemS ?_
  unfold V_l_szProblemS
  have := h.le
  rw [h.len, wrap_of (by omega) (by omega)]
  refine cond_dec (fun _ => ⟨by omega, Ext.refl _⟩) (fun hle => ?_)
  refine ⟨fun (y x : Int) w' => Ext w w' ∧ 0 ≤ y ∧ y + l.length ≤ left ∧ ∃ i : Nat, x = i ∧ i ≤ l.length ∧ y + preP l i + l.length ≤ left + 2 * i ∧ ∀ q ∈ l.take i, SmallP q, fun _ x _ => l.length - x.toNat, ⟨Ext.refl _, by omega, by omega, 0, rfl, by omega, by simp [preP], by simp⟩, ?_⟩
  rintro y x w1 ⟨hE1, hy0, hyl, i, rfl, hi, hy, hr⟩
  intros
  refine cond_dec (fun hlt => ?_) (fun hge => ⟨fun _ => ?_, hE1⟩)
  · have hi' : i < l.length := by omega
    refine slr_ixP (h.ext hE1) hi' fun p z u hP hc => LD_pcells hc ?_
    refine call (szProblem_sum hP y hy0 (by omega)) ?_
    rintro v w2 ⟨hv, hE2⟩
    refine cond_dec (fun _ => ⟨by omega, hE1.trans hE2⟩) (fun hv0 => ?_)
    obtain ⟨hs, hvl⟩ := hv (by omega)
    have h2 : 2 ≤ szP l[i] := by unfold szP; omega
    rw [wrap_of (by omega) (by omega)]
    refine ⟨⟨hE1.trans hE2, by omega, by omega, i + 1, by omega, hi', by rw [preP_succ hi']; omega, fun q hq => ?_⟩, by simp only []; omega⟩
    rw [List.take_succ_eq_append_getElem hi'] at hq
    rcases List.mem_append.1 hq with h2 | h2
    · exact hr q h2
    · rw [List.mem_singleton.1 h2]; exact hs
  · have : i = l.length := by omega
    subst this
    rw [List.take_length] at hr
    exact ⟨by omega, by omega, hr⟩

def totB (B : Bnd) : Nat := preP B.ps B.ps.length + pre B.maps B.maps.length + pre B.pairs B.pairs.length

theorem szBound_sum {w : World} {a b c : Sl} {B : Bnd} (h : RBnd w a b c B) (left : Int) (h0 : 0 ≤ left) (h1 : left ≤ 1048576) :
    Calls Tryz.prog F.l_szBound #[.agg #[a.v, b.v, c.v], .int .i64 left] w (Ret [.at (.int .i64)] fun (x : Int) w' => (0 ≤ x → (SmallB B ∧ totB B ≤ 3145728) ∧ x ≤ left) ∧ Ext w w') := by
  refine C_l_szBound ?_
  unfold V_l_szBound
  refine NEW_intro fun pa w1 hp hs hE hb => LD_bs0 hb ?_
  replace h := h.ext hE
  refine call (szProblemS_sum h.ps left h0 h1) ?_
  rintro x w2 ⟨hx, hE2⟩
  replace hE := hE.ext hE2
  replace h := h.ext hE2
  replace hb := hb.ext hE2
  refine cond_dec (fun _ => ⟨by omega, hE⟩) (fun hn => LD_bs1 hb ?_)
  obtain ⟨hxl, hl, hsm⟩ := hx (by omega)
  refine call (szIntSS_sum h.maps x (by omega) (by omega)) ?_
  rintro y _ ⟨hy, rfl⟩
  refine cond_dec (fun _ => ⟨by omega, hE⟩) (fun hn2 => LD_bs2 hb ?_)
  obtain ⟨hm1, hm2⟩ := hy (by omega)
  refine call (szIntSS_sum h.pairs y (by omega) (by omega)) ?_
  rintro z _ ⟨hz, rfl⟩
  refine cond_dec (fun _ => ⟨by omega, hE⟩) (fun hn3 => ⟨fun _ => ?_, hE⟩)
  obtain ⟨hq1, hq2⟩ := hz (by omega)
  exact ⟨⟨⟨by omega, hsm, ⟨by omega, fun r hr => by have := hm2 r hr; omega⟩, ⟨by omega, fun r hr => by have := hq2 r hr; omega⟩⟩, by unfold totB; omega⟩, by omega⟩

/-! ### Copies whose rows lie apart -/

theorem set_fill {L : List (List Int)} {i : Nat} (h : i < L.length) : (L.take i ++ List.replicate (L.length - i) []).set i L[i] = L.take (i + 1) ++ List.replicate (L.length - (i + 1)) [] := by
  rw [List.set_append_right _ _ (by rw [List.length_take]; omega), List.length_take, Nat.min_eq_left (by omega), Nat.sub_self]
  obtain ⟨k, hk⟩ : ∃ k, L.length - i = k + 1 := ⟨L.length - i - 1, by omega⟩
  rw [hk, List.replicate_succ, List.set_cons_zero, show L.length - (i + 1) = k by omega, List.take_succ_eq_append_getElem h, List.append_assoc]
  rfl

theorem toIntSS_out {w : World} {a : Sl} {l : List (List Int)} (h : R w a l) (hs : SmallM l) :
    Calls Tryz.prog F.l_toIntSS #[a.v] w (Ret [.at .sl] fun (s : Sl) w' => Ext w w' ∧ OutM w.heap.size w' s l) := by
  refine C_l_toIntSS ?_
  unfold V_l_toIntSS
  obtain ⟨hb, hbb⟩ := hs
  rw [h.len]
  refine RUN_make (α := Sl) slt_rows (d := ⟨none, 0, 0⟩) rfl (by omega) (by unfold maxLen; omega) fun s w1 hE1 hO1 => ?_
  have hz1 := hE1.size_le
  refine ⟨IN l.length fun i w' => Ext w w' ∧ w1.heap.size ≤ w'.heap.size ∧ ∃ ss : List Sl, RowsD w' w.heap.size T.t_int T.t_sl_int s (l.take i ++ List.replicate (l.length - i) []) ss, MN l.length,
    IN_zero ⟨hE1, Nat.le_refl _, List.replicate l.length ⟨none, 0, 0⟩, ⟨hO1, by simp, fun k r m hr hm => ?_, fun k j r q hr hq _ b hb => ?_⟩⟩, ?_⟩
  · obtain ⟨_, rfl⟩ := List.getElem?_eq_some_iff.1 hr
    obtain ⟨_, rfl⟩ := List.getElem?_eq_some_iff.1 hm
    simp only [List.getElem_replicate, List.take_zero, List.nil_append]
    exact OwnL.nil _ _ _
  · obtain ⟨_, rfl⟩ := List.getElem?_eq_some_iff.1 hr
    simp only [List.getElem_replicate] at hb
    cases hb
  · rintro x w2 ⟨i, rfl, hi, hE, hz2, ss, hM⟩
    intros
    have hlm : (l.take i ++ List.replicate (l.length - i) []).length = l.length := by simp; omega
    refine cond_dec (fun hlt => ?_) (fun hge => ?_)
    · have hlt' : i < l.length := by omega
      refine (h.ext hE).ixL hlt' fun p s' hs' hc => LD_sl hc ?_
      have hz := hE.size_le
      refine call (toIntS_ok hs'.any (hbb _ (List.getElem_mem _))) ?_
      rintro s3 w3 ⟨hE3, hO3⟩
      have hM3 := hM.ext hE3
      refine hM3.ixP (i := i) (by omega) fun p hp => ?_
      have hiss : i < ss.length := by rw [hM.len]; omega
      refine hM.put (w1 := w3) (by decide) (i := i) (by omega) (r := ss[i]) (by simp [hiss]) (hO3.low hz) (Step.of_ext hE3 _) (.inr fun k hk => (hO3.blk k hk).1) hp fun w4 hM4 hs4 => ?_
      have hz4 := hs4.size
      have hz3 := hE3.size_le
      refine IN_next (by omega) hlt' ⟨hs4.ext0 (hE.trans hE3) (fun k hk => (hM.own.blk k hk).1), by omega, ss.set i s3, ?_⟩
      have e := set_fill (L := l) hlt'
      rw [← e]
      exact hM4
    · have : i = l.length := by omega
      subst this
      rw [List.take_length, Nat.sub_self, List.replicate_zero, List.append_nil] at hM
      exact ⟨hE, ⟨ss, hM⟩, flat_okII h, hb, hbb⟩

/-- A problem of the call's own, its lists one behind the other. -/
structure FreshP (lo mid hi : Nat) (w : World) (z u : Sl) (q : Prob) : Prop where
  nodes : InB lo mid (fun _ => 0) 0 w z q.nodes
  edges : InB mid hi (fun _ => 0) 0 w u q.edges
  lom : lo ≤ mid
  mhi : mid ≤ hi
  top : hi ≤ w.heap.size

theorem FreshP.ext {lo mid hi : Nat} {w w' : World} {z u : Sl} {q : Prob} (h : FreshP lo mid hi w z u q) (hE : Ext w w') : FreshP lo mid hi w' z u q :=
  ⟨h.nodes.ext hE, h.edges.ext hE, h.lom, h.mhi, Nat.le_trans h.top hE.size_le⟩
theorem FreshP.step {lo mid hi : Nat} {w w' : World} {z u : Sl} {q : Prob} {g : Option Nat} (h : FreshP lo mid hi w z u q) (hs : Step w w' g) (hg : ∀ k, g = some k → k < lo ∨ hi ≤ k) : FreshP lo mid hi w' z u q := by
  have hC : Chg w w' (fun k => g = some k) := Chg.of_step hs fun k hk => hk
  have h1 := h.lom
  have h2 := h.mhi
  exact ⟨h.nodes.away hC fun b _ hb ht he => (by have := hg b he; omega), h.edges.away hC fun b _ hb ht he => (by have := hg b he; omega), h.lom, h.mhi, Nat.le_trans h.top hs.size⟩
theorem FreshP.prob {lo mid hi : Nat} {w : World} {z u : Sl} {q : Prob} (h : FreshP lo mid hi w z u q) (h1 : I64 q.labels) (h2 : I64 q.degree) : RProb w z u q := ⟨h1, h2, h.nodes.rep, h.edges.rep⟩

theorem toProblem_out {w : World} {c d : Sl} {p : Prob} (h : RProb w c d p) (hs : SmallP p) :
    Calls Tryz.prog F.l_toProblem #[.agg #[.int .i64 p.labels, .int .i64 p.degree, c.v, d.v]] w (Ret [.agg [.int .i64, .int .i64, .sl, .sl]] fun (x y : Int) (z u : Sl) w' => x = p.labels ∧ y = p.degree ∧ Ext w w' ∧ ∃ mid hi, FreshP w.heap.size mid hi w' z u p) := by
  refine C_l_toProblem ?_
  unfold V_l_toProblem
  refine NEW_intro fun pa w1 hp1 hs1 hE1 hb1 => ?_
  refine NEW_intro fun px w2 hp2 hs2 hE2 hb2 => ?_
  refine NEW_intro fun po w3 hp3 hs3 hE3 hb3 => ?_
  have ha3 := (hb1.ext hE2).ext hE3
  have hx3 := hb2.ext hE3
  have hE : Ext w w3 := (hE1.trans hE2).trans hE3
  have hlt := hb3.lt
  refine LD_bi0 ha3 ?_
  refine ST_box1 hb3 (by simp) rfl fun w4 hz4 hk4 hX4 hb4 => ?_
  have hE4 := hX4 _ hE (by omega)
  have ha4 := ha3.of_block (hk4 _ (by omega))
  have hx4 := hx3.of_block (hk4 _ (by omega))
  refine LD_bi1 ha4 ?_
  refine ST_box1 hb4 (by simp) rfl fun w5 hz5 hk5 hX5 hb5 => ?_
  have hE5 := hX5 _ hE4 (by omega)
  have ha5 := ha4.of_block (hk5 _ (by omega))
  have hx5 := hx4.of_block (hk5 _ (by omega))
  refine LD_bs2 ha5 ?_
  refine call (toIntSS_out (h.nodes.ext hE5) hs.1) ?_
  rintro z w6 ⟨hE6, hz⟩
  have hlt5 := hb5.lt
  refine ST_box1 (hb5.ext hE6) (by simp) rfl fun w7 hz7 hk7 hX7 hb7 => ?_
  have hE7 := hX7 _ (hE5.trans hE6) (by omega)
  have ha7 := (ha5.ext hE6).of_block (hk7 _ (by omega))
  have hx7 := (hx5.ext hE6).of_block (hk7 _ (by omega))
  have hz' : OutM w5.heap.size w7 z p.nodes := hz.keep fun b hb _ => hk7 b (by omega)
  refine LD_bs3 ha7 ?_
  refine call (toIntSS_out (h.edges.ext hE7) hs.2) ?_
  rintro u w8 ⟨hE8, hu⟩
  have hlt7 := hb7.lt
  have hsz6 := hE6.size_le
  have hsz8 := hE8.size_le
  refine ST_box1 (hb7.ext hE8) (by simp) rfl fun w9 hz9 hk9 hX9 hb9 => ?_
  have hE9 := hX9 _ (hE7.trans hE8) (by omega)
  have hx9 := (hx7.ext hE8).of_block (hk9 _ (by omega))
  have hu9 : OutM w7.heap.size w9 u p.edges := hu.keep fun b hb _ => hk9 b (by omega)
  refine LD_iiss hb9 ?_
  refine ST_all hx9 (one4p _ _ _ _) rfl fun w10 hs10 hz10 hb10 => ?_
  have hsz5 : w.heap.size ≤ w5.heap.size := by have := hE.size_le; omega
  have hpx : px.block < w3.heap.size := hx3.lt
  have hu10 : OutM w7.heap.size w10 u p.edges := hu9.keep fun b hb h2 => hs10.block b h2 (by intro he; cases he; omega)
  have hzI : InB w5.heap.size w7.heap.size (fun _ => 0) 0 w10 z p.nodes := by
    obtain ⟨ss, hM⟩ := hz'.ex
    exact ⟨⟨ss, hM.keepB fun b hB => by
      have hbb := hM.blk hB
      rw [hs10.block b (by omega) (by intro he; cases he; omega), hk9 b (by omega), hE8.block b hbb.2], fun b hB => ⟨rfl, (hM.blk hB).2⟩⟩, hz'.i64, hz'.rows, hz'.small⟩
  exact LD_iiss hb10 ⟨rfl, rfl, hs10.ext0 hE9 (fun k hk => by cases hk; omega), w7.heap.size, w10.heap.size, hzI.low hsz5, InB.of hu10 fun _ _ _ => rfl, by omega, by omega, Nat.le_refl _⟩

/-! ### Lists of problems that are copied, or grow -/

theorem RUN_append_prob {w0 w1 : World} {base top lo mid hi b1 : Nat} {own : Nat → Nat} {s y z u : Sl} {l : List Prob} {q : Prob} (h : OutPS base top own w0 s l) (ht : top ≤ w0.heap.size) (hbase : base ≤ w0.heap.size) (hE : Ext w0 w1) (hF : FreshP lo mid hi w1 z u q) (hlo : w0.heap.size ≤ lo) (hq1 : I64 q.labels) (hq2 : I64 q.degree) (hl : l.length + 1 ≤ 1048576)
    (hy : OwnL w1 b1 T.t_i_Problem y [(⟨q.labels, q.degree, z, u⟩ : PRec)]) {K : Sl → World → Prop}
    (hk : ∀ s' w2 own', OutPS base w2.heap.size own' w2 s' (l ++ [q]) → (∀ b, b < w0.heap.size → own' b = own b) → Step w1 w2 s.v.ownBlock → (∀ k, s.v.ownBlock = some k → own k = 2 ∧ base ≤ k ∧ k < top) → K s' w2) : RUN Tryz.prog (.at .sl) (bsem .append #[T.t_sl_i_Problem, T.t_sl_i_Problem] T.t_sl_i_Problem #[s.v, y.v]) w1 K := by
  obtain ⟨rs, hO, hrl, hb, hr⟩ := h.ex
  have hO1 := hO.ext hE
  have hz := hE.size_le
  have hm := hF.lom
  have hm2 := hF.mhi
  have hm3 := hF.top
  have hll := h.len
  refine RUN_appendF (α := PRec) slt_prob hO1 (by omega) (hy.rep fun _ _ => trivial) (by simp; omega) (by simp; unfold maxLen; omega) fun s' w2 hO2 hs2 hN => hk s' w2 (fun b => if b < w0.heap.size then own b else if b < w1.heap.size then (if b < mid then 2 * l.length + 3 else 2 * l.length + 4) else 2) ⟨⟨_, hO2, by simp [hrl], fun b hB => ⟨?_, (hO2.blk b hB).2⟩, fun j h1 h2 => ?_⟩, by simp; omega⟩ (fun b hb => by simp [hb]) hs2 fun k hk => ⟨(hb k hk).1, (hO.blk k hk).1, (hb k hk).2⟩
  · rcases hN with hN | hN
    · rw [hN] at hB
      have h3 := hb b hB
      have h4 := (hO.blk b hB).2
      simp only [if_pos h4]
      exact h3.1
    · have h3 := hN b hB
      rw [if_neg (by omega), if_neg (by omega)]
  · have hz2 := hs2.size
    have hC2 : Chg w1 w2 (fun k => s.v.ownBlock = some k) := Chg.of_step hs2 fun k hk => hk
    by_cases hj : j < rs.length
    · have hjl : j < l.length := by omega
      rw [List.getElem_append_left hj, List.getElem_append_left hjl]
      refine RecB.grow (((hr j hj hjl).ext hE).away hC2 fun b h3 h4 h5 hD => by have := (hb b hD).1; omega) (fun b h3 h4 => ?_) (by omega)
      rw [if_pos (by omega)]
    · have hjl : j = l.length := by simp at h2; omega
      subst hjl
      have e1 : (rs ++ [(⟨q.labels, q.degree, z, u⟩ : PRec)])[l.length]'h1 = ⟨q.labels, q.degree, z, u⟩ := by
        rw [List.getElem_append_right (by omega)]; simp
      have e2 : (l ++ [q])[l.length]'h2 = q := by
        rw [List.getElem_append_right (by omega)]; simp
      rw [e1, e2]
      have hD : ∀ b, lo ≤ b → ¬ s.v.ownBlock = some b := fun b hb0 hD => by have := (hO.blk b hD).2; omega
      refine ⟨rfl, rfl, hq1, hq2, (((hF.nodes.away hC2 fun b _ h3 _ => hD b h3).reown fun b h3 _ h4 _ => ?_).low (by omega)).upTo (by omega), (((hF.edges.away hC2 fun b _ h3 _ => hD b (by omega)).reown fun b h3 _ h4 _ => ?_).low (by omega)).upTo (by omega)⟩
      · rw [if_neg (by omega), if_pos (by omega), if_pos h4]
      · rw [if_neg (by omega), if_pos (by omega), if_neg (by omega)]

theorem toProblemS_out {w : World} {a : Sl} {l : List Prob} (h : R w a l) (hl : l.length ≤ 1048576) (hs : ∀ q ∈ l, SmallP q) :
    Calls Tryz.prog F.l_toProblemS #[a.v] w (Ret [.at .sl] fun (r : Sl) w' => Ext w w' ∧ ∃ own, OutPS w.heap.size w'.heap.size own w' r l) := by
  refine C_l_toProblemS ?_
  unfold V_l_toProblemS
  rw [h.len]
  refine RUN_make (α := PRec) slt_prob (d := ⟨0, 0, ⟨none, 0, 0⟩, ⟨none, 0, 0⟩⟩) rfl (by omega) (by unfold maxLen; omega) fun t w1 hE1 hO1 => ?_
  have hz1 := hE1.size_le
  have hto : ∀ k, t.v.ownBlock = some k → k < w1.heap.size := fun k hk => (hO1.blk k hk).2
  refine ⟨IN l.length fun i w' => Ext w w' ∧ w1.heap.size ≤ w'.heap.size ∧ ∃ (own : Nat → Nat) (rs : List PRec), OwnL w' w.heap.size T.t_i_Problem t rs ∧ rs.length = l.length ∧ (∀ b, t.v.ownBlock = some b → own b = 2) ∧ ∀ j, j < i → ∀ (h1 : j < rs.length) (h2 : j < l.length), RecB w.heap.size w'.heap.size own j w' rs[j] l[j], MN l.length, IN_zero ⟨hE1, Nat.le_refl _, fun _ => 2, _, hO1, by simp, fun _ _ => rfl, fun j hj => absurd hj (by omega)⟩, ?_⟩
  rintro _ w2 ⟨i, rfl, hi, hE2, hz2, own, rs, hO2, hrl, hb, hR2⟩
  intros
  refine cond_dec (fun hlt => ?_) (fun hge => ?_)
  · have hi' : i < l.length := by omega
    refine slr_ixP (h.ext hE2) hi' fun p z u hP hc => LD_pcells hc ?_
    refine call (toProblem_out hP (hs _ (List.getElem_mem hi'))) ?_
    rintro _ _ z' u' w3 ⟨rfl, rfl, hE3, mid, hi3, hF⟩
    have hO3 := hO2.ext hE3
    have hz3 := hE3.size_le
    have hlm := hF.lom
    have hmh := hF.mhi
    have hht := hF.top
    have hir : i < rs.length := by omega
    refine IX_own hO3 hir rfl fun q hq => ?_
    refine ST_own hO3 hir hq (⟨l[i].labels, l[i].degree, z', u'⟩ : PRec) rfl fun w4 hO4 hs4 => ?_
    have hz4 := hs4.size
    have hC4 : Chg w3 w4 (fun k => t.v.ownBlock = some k) := Chg.of_step hs4 fun k hk => hk
    refine IN_next h.le hi' ⟨hs4.ext0 (hE2.trans hE3) fun k hk => (hO3.blk k hk).1, by omega, fun b => if b < w2.heap.size then own b else if b < mid then 2 * i + 3 else 2 * i + 4, _, hO4, by simp [hrl], fun b hB => ?_, fun j hj h1 h2 => ?_⟩
    · have := hto b hB
      show (if b < w2.heap.size then own b else _) = 2
      rw [if_pos (by omega)]
      exact hb b hB
    by_cases hji : j = i
    · subst hji
      rw [List.getElem_set_self]
      have hD : ∀ b, w2.heap.size ≤ b → ¬ t.v.ownBlock = some b := fun b hb0 hD => by have := hto b hD; omega
      refine ⟨rfl, rfl, hP.labels, hP.degree, (((hF.nodes.away hC4 fun b _ h3 _ => hD b h3).reown fun b h3 _ h4 _ => ?_).low (by omega)).upTo (by omega), (((hF.edges.away hC4 fun b _ h3 _ => hD b (by omega)).reown fun b h3 _ h4 _ => ?_).low (by omega)).upTo (by omega)⟩
      · rw [if_neg (by omega), if_pos h4]
      · rw [if_neg (by omega), if_neg (by omega)]
    · rw [List.getElem_set_ne (by omega)]
      refine RecB.grow (((hR2 j (by omega) (by simpa using h1) h2).ext hE3).away hC4 fun b h3 h4 h5 hD => by have := hb b hD; omega) (fun b h3 h4 => ?_) (by omega)
      rw [if_pos h4]
  · have : i = l.length := by omega
    subst this
    exact ⟨hE2, own, ⟨rs, hO2, hrl, fun b hB => ⟨hb b hB, (hO2.blk b hB).2⟩, fun j h1 h2 => hR2 j h2 h1 h2⟩, hl⟩

structure OutB (base top : Nat) (w : World) (a b c : Sl) (B : Bnd) : Prop where
  ex : ∃ own, OutPS base top own w a B.ps ∧ InB base top own 0 w b B.maps ∧ InB base top own 1 w c B.pairs

section
variable {base top : Nat} {w w' : World} {a b c : Sl} {B : Bnd}
theorem OutB.bnd (h : OutB base top w a b c B) : RBnd w a b c B := by
  obtain ⟨own, h1, h2, h3⟩ := h.ex
  exact ⟨h1.rep, h2.rep, h3.rep⟩
theorem OutB.keep (h : OutB base top w a b c B) (hk : ∀ b, base ≤ b → b < top → b < w.heap.size → w'.heap[b]? = w.heap[b]?) : OutB base top w' a b c B := by
  obtain ⟨own, h1, h2, h3⟩ := h.ex
  exact ⟨own, h1.keep fun b _ => hk b, h2.keep fun b _ => hk b, h3.keep fun b _ => hk b⟩
theorem OutB.ext (h : OutB base top w a b c B) (hE : Ext w w') : OutB base top w' a b c B := h.keep fun _ _ _ h4 => hE.same h4
theorem OutB.chgR (h : OutB base top w a b c B) {lo hi : Nat} (hC : Chg w w' (fun b => lo ≤ b ∧ b < hi)) (hh : hi ≤ base ∨ top ≤ lo) : OutB base top w' a b c B :=
  h.keep fun b h1 h2 h3 => hC.block b h3 fun hD => by have h4 : lo ≤ b := hD.1; have h5 : b < hi := hD.2; omega
theorem OutB.low (h : OutB base top w a b c B) {l : Nat} (hl : l ≤ base) : OutB l top w a b c B := by
  obtain ⟨own, ⟨⟨rs, hO, h2, h3, h4⟩, h5⟩, hm, hp⟩ := h.ex
  exact ⟨own, ⟨⟨rs, hO.low hl, h2, h3, fun j k1 k2 => have hr := h4 j k1 k2; ⟨hr.x, hr.y, hr.lab, hr.deg, hr.nodes.low hl, hr.edges.low hl⟩⟩, h5⟩, hm.low hl, hp.low hl⟩
end

theorem toBound_out {w : World} {a b c : Sl} {B : Bnd} (h : RBnd w a b c B) (hs : SmallB B) :
    Calls Tryz.prog F.l_toBound #[.agg #[a.v, b.v, c.v]] w (Ret [.agg [.sl, .sl, .sl]] fun (x y z : Sl) w' => Ext w w' ∧ OutB w.heap.size w'.heap.size w' x y z B) := by
  refine C_l_toBound ?_
  unfold V_l_toBound
  refine NEW_intro fun pa w1 hp1 hs1 hE1 hb1 => ?_
  refine NEW_intro fun px w2 hp2 hs2 hE2 hb2 => ?_
  refine NEW_intro fun po w3 hp3 hs3 hE3 hb3 => ?_
  have ha3 := (hb1.ext hE2).ext hE3
  have hx3 := hb2.ext hE3
  have hE : Ext w w3 := (hE1.trans hE2).trans hE3
  have hlt := hb3.lt
  refine LD_bs0 ha3 ?_
  refine call (toProblemS_out (h.ps.ext hE) hs.len hs.ps) ?_
  rintro x w4 ⟨hE4, own, hx⟩
  have hz4 := hE4.size_le
  refine ST_box1 (hb3.ext hE4) (by simp) rfl fun w5 hz5 hk5 hX5 hb5 => ?_
  have hE5 := hX5 _ (hE.trans hE4) (by omega)
  have ha5 := (ha3.ext hE4).of_block (hk5 _ (by omega))
  have hx5 := (hx3.ext hE4).of_block (hk5 _ (by omega))
  have hxx5 : OutPS w3.heap.size w4.heap.size own w5 x B.ps := hx.keep fun b _ h1 _ _ => hk5 b (by omega)
  refine LD_bs1 ha5 ?_
  refine call (toIntSS_out (h.maps.ext hE5) hs.maps) ?_
  rintro y w6 ⟨hE6, hy⟩
  have hz6 := hE6.size_le
  refine ST_box1 (hb5.ext hE6) (by simp) rfl fun w7 hz7 hk7 hX7 hb7 => ?_
  have hE7 := hX7 _ (hE5.trans hE6) (by omega)
  have ha7 := (ha5.ext hE6).of_block (hk7 _ (by omega))
  have hx7 := (hx5.ext hE6).of_block (hk7 _ (by omega))
  have hxx7 : OutPS w3.heap.size w4.heap.size own w7 x B.ps := (hxx5.ext hE6).keep fun b _ h1 _ _ => hk7 b (by omega)
  have hyy7 : OutM w5.heap.size w7 y B.maps := hy.keep fun b h1 _ => hk7 b (by omega)
  refine LD_bs2 ha7 ?_
  refine call (toIntSS_out (h.pairs.ext hE7) hs.pairs) ?_
  rintro z w8 ⟨hE8, hz⟩
  have hz8 := hE8.size_le
  refine ST_box1 (hb7.ext hE8) (by simp) rfl fun w9 hz9 hk9 hX9 hb9 => ?_
  have hE9 := hX9 _ (hE7.trans hE8) (by omega)
  have hx9 := (hx7.ext hE8).of_block (hk9 _ (by omega))
  have hxx9 : OutPS w3.heap.size w4.heap.size own w9 x B.ps := (hxx7.ext hE8).keep fun b _ h1 _ _ => hk9 b (by omega)
  have hyy7' : InB w5.heap.size w7.heap.size (fun _ => 0) 0 w7 y B.maps := InB.of hyy7 fun _ _ _ => rfl
  have hyy9 : InB w5.heap.size w7.heap.size (fun _ => 0) 0 w9 y B.maps := (hyy7'.ext hE8).keep fun b _ h1 _ _ => hk9 b (by omega)
  have hzz9 : OutM w7.heap.size w9 z B.pairs := hz.keep fun b h1 _ => hk9 b (by omega)
  refine LD_box3 hb9 ?_
  refine ST_all hx9 (one3 _ _ _) rfl fun w10 hs10 hz10 hb10 => ?_
  have hpx := hb2.lt
  have hsz := hE.size_le
  have hk10 : ∀ b, w3.heap.size ≤ b → b < w9.heap.size → w10.heap[b]? = w9.heap[b]? := fun b h1 h2 => hs10.block b h2 (by intro he; cases he; omega)
  have hxx10 : OutPS w3.heap.size w4.heap.size own w10 x B.ps := hxx9.keep fun b _ h1 _ h4 => hk10 b h1 h4
  have hyy10 : InB w5.heap.size w7.heap.size (fun _ => 0) 0 w10 y B.maps := hyy9.keep fun b _ h1 _ h4 => hk10 b (by omega) h4
  have hzz10 : OutM w7.heap.size w10 z B.pairs := hzz9.keep fun b h1 h4 => hk10 b (by omega) h4
  refine LD_box3 hb10 ⟨hs10.ext0 hE9 (fun k hk => by cases hk; have := hE1.size_le; omega), fun b => if b < w4.heap.size then own b else if b < w7.heap.size then 0 else 1, ?_, ?_, ?_⟩
  · have hg : OutPS w3.heap.size w10.heap.size (fun b => if b < w4.heap.size then own b else if b < w7.heap.size then 0 else 1) w10 x B.ps := hxx10.grow (fun b _ h2 => by rw [if_pos h2]) (by omega)
    obtain ⟨⟨rs, hO, h2, h3, h4⟩, h5⟩ := hg
    exact ⟨⟨rs, hO.low hsz, h2, h3, fun j k1 k2 => have hr := h4 j k1 k2; ⟨hr.x, hr.y, hr.lab, hr.deg, hr.nodes.low hsz, hr.edges.low hsz⟩⟩, h5⟩
  · exact ((hyy10.reown fun b h1 _ h3 _ => by rw [if_neg (by omega), if_pos h3]).low (by omega)).upTo (by omega)
  · exact (InB.of hzz10 fun b h1 _ => by rw [if_neg (by omega), if_neg (by omega)]).low (by omega)

end Go.Proofs.YtndebacmnpghkaaGreat
end

section
/- Marks of bounds: on a copy and on an answer, whose blocks have owners. -/
namespace Go.Proofs.YtndebacmnpghkaaGreat
open Go.GX Go.RowKit
set_option maxRecDepth 100000

theorem preP_all (l : List Prob) : preP l l.length = (l.map szP).sum := by unfold preP; rw [List.take_length]
theorem preP_app (l m : List Prob) : preP (l ++ m) (l ++ m).length = preP l l.length + preP m m.length := by rw [preP_all, preP_all, preP_all, List.map_append, List.sum_append]
theorem preP_take (l : List Prob) (i : Nat) : preP (l.take i) (l.take i).length ≤ preP l l.length := by
  have h := preP_app (l.take i) (l.drop i)
  rw [List.take_append_drop] at h
  omega
theorem preP_drop (l : List Prob) (i : Nat) : preP (l.drop i) (l.drop i).length ≤ preP l l.length := by
  have h := preP_app (l.take i) (l.drop i)
  rw [List.take_append_drop] at h
  omega

theorem marksP_set {k : Int} {l : List Prob} {i : Nat} (hi : i < l.length) : (marksP k l i).set i (markPr (k + preP l i) l[i]) = marksP k l (i + 1) := by
  apply List.ext_getElem
  · rw [List.length_set, marksP_len, marksP_len]
  · intro j h1 h2
    have hj : j < l.length := by rw [marksP_len] at h2; exact h2
    rw [List.getElem_set, marksP_get hj, marksP_get hj]
    by_cases he : i = j
    · subst he
      rw [if_pos rfl, if_pos (by omega)]
    · rw [if_neg he]
      by_cases hlt : j < i
      · rw [if_pos hlt, if_pos (by omega)]
      · rw [if_neg hlt, if_neg (by omega)]

/-- A record's cells in an owned list. -/
theorem rec_ix {w : World} {base : Nat} {e : TypeId} {s : Sl} {rs : List PRec} (h : OwnL w base e s rs) {i : Nat} (hi : i < rs.length) {K : Addr → Prop} (hk : ∀ p, (∀ j v, [Value.int .i64 rs[i].x, .int .i64 rs[i].y, rs[i].z.v, rs[i].u.v][j]? = some v → w.cell? (p.add j) = some v) → K p) : IX s i 4 K :=
  (h.rep (fun _ _ => trivial)).ix rfl (by omega) (by omega) fun p cs hr hc => hk p fun j v hv => hc j v (by
    have hr' : cs = [.int .i64 rs[i].x, .int .i64 rs[i].y, rs[i].z.v, rs[i].u.v] := hr
    rw [hr']; exact hv)

set_option maxHeartbeats 1000000 in
theorem markProblemS_own {base top : Nat} {own : Nat → Nat} {w : World} {s : Sl} {l : List Prob} (h : OutPS base top own w s l) (k : Int) (h0 : 0 ≤ k) (h1 : k + preP l l.length ≤ 1125899906842624) :
    Calls Tryz.prog F.l_markProblemS #[s.v, .int .i64 k] w (Ret [.at (.int .i64)] fun (r : Int) w' => r = k + preP l l.length ∧ OutPS base top own w' s (marksP k l l.length) ∧ Chg w w' (fun b => 2 ≤ own b ∧ base ≤ b ∧ b < top)) := by
  refine C_l_markProblemS ?_
  unfold V_l_markProblemS
  have hl20 := h.len
  have hsl : s.len = l.length := h.rep.len
  rw [hsl]
  refine ⟨IN2 l.length fun i (r : Int) w' => r = k + preP l i ∧ OutPS base top own w' s (marksP k l i) ∧ Chg w w' (fun b => 2 ≤ own b ∧ base ≤ b ∧ b < top), MN2 l.length, IN2_zero ⟨by simp [preP], by rw [marksP_zero]; exact h, Chg.refl _ _⟩, ?_⟩
  rintro _ _ w1 ⟨i, rfl, hi, rfl, hO1, hC1⟩
  intros
  refine cond_dec (fun hlt => ?_) (fun hge => ?_)
  · have hi' : i < l.length := by omega
    obtain ⟨rs, hO, hlen, hb, hr⟩ := hO1.ex
    have hml : (marksP k l i).length = l.length := marksP_len _ _ _
    have hir : i < rs.length := by omega
    have him : i < (marksP k l i).length := by omega
    have hcur : (marksP k l i)[i] = l[i] := by rw [marksP_get hi', if_neg (by omega)]
    have hR := hr i hir him
    rw [hcur] at hR
    have hps := preP_succ hi'
    have hpl := preP_le (l := l) (i := i + 1) (by omega)
    unfold szP at hps
    generalize hkk : k + (preP l i : Int) = kk at *
    have hkb : 0 ≤ kk ∧ kk + 2 + pre l[i].nodes l[i].nodes.length + pre l[i].edges l[i].edges.length ≤ 1125899906842624 := by omega
    refine IX_own hO hir rfl fun p hp => ?_
    refine ST_field hO hir hp (off := 0) (by decide) (v := .int .i64 kk) rfl ⟨kk, rs[i].y, rs[i].z, rs[i].u⟩ rfl fun w2 hO2 hs2 => ?_
    have hir2 : i < (rs.set i ⟨kk, rs[i].y, rs[i].z, rs[i].u⟩).length := by rw [List.length_set]; exact hir
    refine IX_own hO2 hir2 rfl fun p2 hp2 => ?_
    rw [wrap_of (n := kk + 1) (by omega) (by omega)]
    refine ST_field hO2 hir2 hp2 (off := 1) (by decide) (v := .int .i64 (kk + 1)) rfl ⟨kk, kk + 1, rs[i].z, rs[i].u⟩ (by rw [List.getElem_set_self]; rfl) fun w3 hO3 hs3 => ?_
    rw [List.set_set] at hO3
    have hir3 : i < (rs.set i ⟨kk, kk + 1, rs[i].z, rs[i].u⟩).length := by rw [List.length_set]; exact hir
    have hs13 := hs2.trans hs3
    have hC13 : Chg w1 w3 (oB s) := .of_step hs13 fun k hk => hk
    have hsb : ∀ b, oB s b → own b = 2 ∧ base ≤ b ∧ b < top := fun b hB => ⟨(hb b hB).1, (hO.blk b hB).1, (hb b hB).2⟩
    have hN3 := hR.nodes.away hC13 fun b h1 _ _ hD => by have := (hsb b hD).1; omega
    have hE3 := hR.edges.away hC13 fun b h1 _ _ hD => by have := (hsb b hD).1; omega
    refine rec_ix hO3 hir3 fun p3 hc3 => ?_
    rw [List.getElem_set_self] at hc3
    refine LD_sl (hc3 2 _ rfl) ?_
    rw [wrap_of (n := kk + 1 + 1) (by omega) (by omega)]
    have ek : kk + 1 + 1 = kk + 2 := by omega
    rw [ek]
    refine call (hN3.mark (kk + 2) (by omega) (by omega)) ?_
    rintro _ w4 ⟨rfl, hN4, hC4⟩
    have hO4 := hO3.keep fun b hB => hC4.block b (hO3.blk b hB).2 fun hD => by have := (hsb b hB).1; have := hD.1; omega
    have hE4 := hE3.away hC4 fun b h1 _ _ hD => by have := hD.1; omega
    refine rec_ix hO4 hir3 fun p4 hc4 => ?_
    rw [List.getElem_set_self] at hc4
    refine LD_sl (hc4 3 _ rfl) ?_
    refine call (hE4.mark (kk + 2 + pre l[i].nodes l[i].nodes.length) (by omega) (by omega)) ?_
    rintro _ w5 ⟨rfl, hE5, hC5⟩
    have hO5 := hO4.keep fun b hB => hC5.block b (hO4.blk b hB).2 fun hD => by have := (hsb b hB).1; have := hD.1; omega
    have hN5 := hN4.away hC5 fun b h1 _ _ hD => by have := hD.1; omega
    have hC15 : Chg w1 w5 (fun b => 2 ≤ own b ∧ base ≤ b ∧ b < top) := ((hC13.mono fun b hB => by have := hsb b hB; omega).trans (hC4.mono fun b hD => by have := hD.1; have := hD.2; omega)).trans (hC5.mono fun b hD => by have := hD.1; have := hD.2; omega)
    refine IN2_next (by omega) hi' ⟨by omega, ?_, hC1.trans hC15⟩
    rw [← marksP_set hi', hkk]
    refine ⟨⟨rs.set i ⟨kk, kk + 1, rs[i].z, rs[i].u⟩, hO5, by rw [List.length_set, List.length_set]; exact hlen, hb, fun j k1 k2 => ?_⟩, by rw [List.length_set]; omega⟩
    rw [List.getElem_set, List.getElem_set]
    by_cases he : i = j
    · subst he
      rw [if_pos rfl, if_pos rfl]
      exact ⟨rfl, rfl, (show I64 kk from ⟨by omega, by omega⟩), (show I64 (kk + 1) from ⟨by omega, by omega⟩), hN5, hE5⟩
    · rw [if_neg he, if_neg he]
      rw [List.length_set] at k1 k2
      have hj := hr j k1 k2
      have hC45 : Chg w3 w5 (fun b => own b = 2 * i + 3 ∨ own b = 2 * i + 4) := (hC4.mono fun b hD => .inl hD.1).trans (hC5.mono fun b hD => .inr hD.1)
      exact ⟨hj.x, hj.y, hj.lab, hj.deg, ((hj.nodes.away hC13 fun b h1 _ _ hD => by have := (hsb b hD).1; omega).away hC45 fun b h1 _ _ hD => by omega), ((hj.edges.away hC13 fun b h1 _ _ hD => by have := (hsb b hD).1; omega).away hC45 fun b h1 _ _ hD => by omega)⟩
  · have : i = l.length := by omega
    subst this
    exact ⟨rfl, hO1, hC1⟩

theorem heldProblemS_ok {w : World} {s : Sl} {l : List Prob} (k : Int) (h : R w s (marksP k l l.length)) (h0 : 0 ≤ k) (h1 : k + preP l l.length ≤ 1125899906842624) (hs : ∀ q ∈ l, (q.nodes.length ≤ 1048576 ∧ ∀ r ∈ q.nodes, r.length ≤ 1048576) ∧ q.edges.length ≤ 1048576 ∧ ∀ r ∈ q.edges, r.length ≤ 1048576) (hl20 : l.length ≤ 1048576) :
    Calls Tryz.prog F.l_heldProblemS #[s.v, .int .i64 k] w (Ret [.at (.int .i64)] fun (r : Int) w' => r = k + preP l l.length ∧ w = w') := by
  refine C_l_heldProblemS ?_
  unfold V_l_heldProblemS
  rw [h.len, marksP_len]
  refine ⟨IN2 l.length fun i (r : Int) w' => r = k + preP l i ∧ w = w', MN2 l.length, IN2_zero ⟨by simp [preP], rfl⟩, ?_⟩
  rintro _ _ w1 ⟨i, rfl, hi, rfl, rfl⟩
  intros
  refine cond_dec (fun hlt => ?_) (fun hge => ?_)
  · have hi' : i < l.length := by omega
    have him : i < (marksP k l l.length).length := by rw [marksP_len]; exact hi'
    have hcur : (marksP k l l.length)[i] = markPr (k + preP l i) l[i] := by rw [marksP_get hi', if_pos hi']
    have hps := preP_succ hi'
    have hpl := preP_le (l := l) (i := i + 1) (by omega)
    unfold szP at hps
    have hsm := hs _ (List.getElem_mem hi')
    have ix : ∀ {K : Addr → Prop}, (∀ p z u, RProb w z u (markPr (k + preP l i) l[i]) → PCells w p (markPr (k + preP l i) l[i]) z u → K p) → IX s i 4 K := fun hk => slr_ixP h him fun p z u hP hc => by
      rw [hcur] at hP hc
      exact hk p z u hP hc
    generalize hkk : k + (preP l i : Int) = kk at *
    have hkb : 0 ≤ kk ∧ kk + 2 + pre l[i].nodes l[i].nodes.length + pre l[i].edges l[i].edges.length ≤ 1125899906842624 := by omega
    refine ix fun p z u hP hc => LD_int (hc 0 _ rfl) ?_
    refine cond_ne (fun hne => absurd rfl hne) (fun _ => ?_)
    refine ix fun p2 z2 u2 hP2 hc2 => LD_int (hc2 1 _ rfl) ?_
    rw [wrap_of (n := kk + 1) (by omega) (by omega)]
    refine cond_ne (fun hne => absurd rfl hne) (fun _ => ?_)
    refine ix fun p3 z3 u3 hP3 hc3 => LD_sl (hc3 2 _ rfl) ?_
    rw [wrap_of (n := kk + 1 + 1) (by omega) (by omega)]
    have ek : kk + 1 + 1 = kk + 2 := by omega
    rw [ek]
    refine call (heldIntSS_ok (kk + 2) hP3.nodes (by omega) (by omega) (by have := hsm.1.1; omega) (fun r hr => by have := hsm.1.2 r hr; omega)) ?_
    rintro _ _ ⟨rfl, rfl⟩
    refine cond_df (by omega) ?_
    refine ix fun p4 z4 u4 hP4 hc4 => LD_sl (hc4 3 _ rfl) ?_
    refine call (heldIntSS_ok (kk + 2 + pre l[i].nodes l[i].nodes.length) hP4.edges (by omega) (by omega) (by have := hsm.2.1; omega) (fun r hr => by have := hsm.2.2 r hr; omega)) ?_
    rintro _ _ ⟨rfl, rfl⟩
    refine cond_df (by omega) ?_
    exact IN2_next (by omega) hi' ⟨by omega, rfl⟩
  · have : i = l.length := by omega
    subst this
    exact ⟨rfl, rfl⟩

structure MarkedB (w : World) (x y z : Sl) (B : Bnd) (k : Int) : Prop where
  ps : R w x (marksP k B.ps B.ps.length)
  maps : R w y (marks2 (k + preP B.ps B.ps.length) B.maps)
  pairs : R w z (marks2 (k + preP B.ps B.ps.length + pre B.maps B.maps.length) B.pairs)
  lo : 0 ≤ k
  hi : k ≤ 16777216
  tot : preP B.ps B.ps.length ≤ 16777216
  len : B.ps.length ≤ 1048576
  sm : ∀ q ∈ B.ps, (q.nodes.length ≤ 1048576 ∧ ∀ r ∈ q.nodes, r.length ≤ 1048576) ∧ q.edges.length ≤ 1048576 ∧ ∀ r ∈ q.edges, r.length ≤ 1048576
  mr : B.maps.length ≤ 1048576
  ms : ∀ r ∈ B.maps, r.length ≤ 1048576
  pr : B.pairs.length ≤ 1048576
  pc : ∀ r ∈ B.pairs, r.length ≤ 1048576
theorem MarkedB.ext {w w' : World} {x y z : Sl} {B : Bnd} {k : Int} (h : MarkedB w x y z B k) (hE : Ext w w') : MarkedB w' x y z B k :=
  ⟨h.ps.ext hE, h.maps.ext hE, h.pairs.ext hE, h.lo, h.hi, h.tot, h.len, h.sm, h.mr, h.ms, h.pr, h.pc⟩

theorem markB_out {base top : Nat} {w : World} {x y z : Sl} {B : Bnd} (h : OutB base top w x y z B) (ht : top ≤ w.heap.size) (hp : preP B.ps B.ps.length ≤ 16777216) (k : Int) (h0 : 0 ≤ k) (h1 : k ≤ 16777216) :
    Calls Tryz.prog F.l_markBound #[.agg #[x.v, y.v, z.v], .int .i64 k] w (Ret [.at (.int .i64)] fun (r : Int) w' => r = k + totB B ∧ MarkedB w' x y z B k ∧ Chg w w' (fun b => base ≤ b ∧ b < top)) := by
  refine C_l_markBound ?_
  unfold V_l_markBound
  refine NEW_intro fun pa w1 hp1 hs1 hE1 hb1 => LD_bs0 hb1 ?_
  obtain ⟨own, hP, hM, hR⟩ := (h.ext hE1).ex
  have hz1 := hE1.size_le
  have hab : ¬ (base ≤ pa.block ∧ pa.block < top) := by omega
  refine call (markProblemS_own hP k h0 (by omega)) ?_
  rintro _ w2 ⟨rfl, hP2, hC2⟩
  have hC2' : Chg w1 w2 (fun b => base ≤ b ∧ b < top) := hC2.mono fun b hD => hD.2
  have hM2 := hM.away hC2 fun b h1 _ _ hD => by have := hD.1; omega
  have hR2 := hR.away hC2 fun b h1 _ _ hD => by have := hD.1; omega
  have hpm := pre_le hM.small _ (Nat.le_refl _)
  have hrm := hM.rows
  refine LD_bs1 (hb1.chg hC2' hab) ?_
  refine call (hM2.mark _ (by omega) (by omega)) ?_
  rintro _ w3 ⟨rfl, hM3, hC3⟩
  have hC3' : Chg w2 w3 (fun b => base ≤ b ∧ b < top) := hC3.mono fun b hD => hD.2
  have hR3 := hR2.away hC3 fun b h1 _ _ hD => by have := hD.1; omega
  have hP3 := hP2.away hC3 fun b h1 _ _ hD => by have := hD.1; omega
  refine LD_bs2 ((hb1.chg hC2' hab).chg hC3' hab) ?_
  refine call (hR3.mark _ (by omega) (by omega)) ?_
  rintro _ w4 ⟨rfl, hR4, hC4⟩
  have hC4' : Chg w3 w4 (fun b => base ≤ b ∧ b < top) := hC4.mono fun b hD => hD.2
  have hP4 := hP3.away hC4 fun b h1 _ _ hD => by have := hD.1; omega
  have hM4 := hM3.away hC4 fun b h1 _ _ hD => by have := hD.1; omega
  obtain ⟨rs, _, hrl, _, hrr⟩ := hP.ex
  refine ⟨by unfold totB; omega, ⟨hP4.rep, hM4.rep, hR4.rep, h0, h1, hp, hP.len, fun q hq => ?_, hM.rows, hM.small, hR.rows, hR.small⟩, ((Chg.of_ext hE1).trans hC2').trans (hC3'.trans hC4')⟩
  obtain ⟨j, hj, rfl⟩ := List.mem_iff_getElem.1 hq
  have hj2 := hrr j (by omega) hj
  exact ⟨⟨hj2.nodes.rows, hj2.nodes.small⟩, hj2.edges.rows, hj2.edges.small⟩

theorem heldB_ok {w : World} {x y z : Sl} {B : Bnd} {k : Int} (h : MarkedB w x y z B k) :
    Calls Tryz.prog F.l_heldBound #[.agg #[x.v, y.v, z.v], .int .i64 k] w (Ret [.at (.int .i64)] fun (r : Int) w' => r = k + totB B ∧ Ext w w') := by
  refine C_l_heldBound ?_
  unfold V_l_heldBound
  refine NEW_intro fun pa w1 hp1 hs1 hE1 hb1 => LD_bs0 hb1 ?_
  have h' := h.ext hE1
  have h0 := h.lo
  have h1 := h.hi
  have ht := h.tot
  have hpm := pre_le h.ms _ (Nat.le_refl _)
  have hrm := h.mr
  refine call (heldProblemS_ok k h'.ps h0 (by omega) h.sm h.len) ?_
  rintro _ _ ⟨rfl, rfl⟩
  refine cond_df (by omega) (LD_bs1 hb1 ?_)
  refine call (heldIntSS_ok _ h'.maps (by omega) (by omega) h.mr h.ms) ?_
  rintro _ _ ⟨rfl, rfl⟩
  refine cond_df (by omega) (LD_bs2 hb1 ?_)
  refine call (heldIntSS_ok _ h'.pairs (by omega) (by omega) h.pr h.pc) ?_
  rintro _ _ ⟨rfl, rfl⟩
  refine cond_df (by omega) ⟨by unfold totB; omega, hE1⟩

end Go.Proofs.YtndebacmnpghkaaGreat
end

section
/- The first two places of a list whose labels may not stand beside each other: in plain words, and the reference's search. -/
namespace Go.Proofs.YtndebacmnpghkaaGreat
open Go.GX Go.RowKit
set_option maxRecDepth 100000

theorem get_at {l : List Int} {i : Nat} (hi : i < l.length) : l.getD i 0 = l[i] := by simp [hi]

theorem range_first {α : Type} {n m : Nat} {f : Nat → Option α} {h : α} (hm : m < n) (hn : ∀ b, b < m → f b = none) (hh : f m = some h) : (List.range n).findSome? f = some h := by
  obtain ⟨k, rfl⟩ : ∃ k, n = m + (k + 1) := ⟨n - m - 1, by omega⟩
  rw [List.range_add, List.findSome?_append]
  have h2 : (List.range m).findSome? f = none := by
    rw [List.findSome?_eq_none_iff]
    intro b hb
    exact hn b (List.mem_range.1 hb)
  rw [h2, Option.none_or, List.range_succ_eq_map, List.map_cons, List.findSome?_cons, Nat.add_zero, hh]
theorem range_none {α : Type} {n : Nat} {f : Nat → Option α} (hn : ∀ b, b < n → f b = none) : (List.range n).findSome? f = none := by
  rw [List.findSome?_eq_none_iff]
  intro b hb
  exact hn b (List.mem_range.1 hb)

/-- The first two places of a list whose labels may not stand beside each other. -/
def badIx (p : Prob) (x : List Int) : Option (Nat × Nat) := (List.range x.length).findSome? fun i => (List.range x.length).findSome? fun j => if edgeB p (x.getD i 0) (x.getD j 0) = true then none else some (i, j)

theorem badIx_hit {p : Prob} {x : List Int} {i j : Nat} (hi : i < x.length) (hj : j < x.length) (h1 : ∀ u, u < i → ∀ v, v < x.length → edgeB p (x.getD u 0) (x.getD v 0) = true) (h2 : ∀ v, v < j → edgeB p (x.getD i 0) (x.getD v 0) = true) (h3 : edgeB p (x.getD i 0) (x.getD j 0) = false) : badIx p x = some (i, j) := by
  refine range_first hi (fun u hu => range_none fun v hv => if_pos (h1 u hu v hv)) (range_first hj (fun v hv => if_pos (h2 v hv)) ?_)
  rw [h3]; rfl
theorem badIx_no {p : Prob} {x : List Int} (h1 : ∀ u, u < x.length → ∀ v, v < x.length → edgeB p (x.getD u 0) (x.getD v 0) = true) : badIx p x = none :=
  range_none fun u hu => range_none fun v hv => if_pos (h1 u hu v hv)

theorem badIx_some {p : Prob} {x : List Int} {i j : Nat} (h : badIx p x = some (i, j)) : i < x.length ∧ j < x.length := by
  obtain ⟨u, hu, h1⟩ := List.exists_of_findSome?_eq_some h
  obtain ⟨v, hv, h2⟩ := List.exists_of_findSome?_eq_some h1
  have h3 := List.mem_range.1 hu
  have h4 := List.mem_range.1 hv
  by_cases he : edgeB p (x.getD u 0) (x.getD v 0) = true
  · rw [if_pos he] at h2; cases h2
  · rw [if_neg he] at h2; cases h2; exact ⟨h3, h4⟩

theorem edgeB_comm (p : Prob) (a b : Int) : edgeB p a b = edgeB p b a := by
  unfold edgeB
  rw [sort2, sort2]
  by_cases h1 : a ≤ b
  · by_cases h2 : b ≤ a
    · have : a = b := by omega
      subst this; rfl
    · rw [if_pos h1, if_neg h2]
  · rw [if_neg h1, if_pos (by omega)]

theorem zeBad_ok {w : World} {c d s t : Sl} {p : Prob} {x : List Int} (h : RProb w c d p) (hx : R w s x) (hy : R w t x) :
    Calls Tryz.prog F.s_zeBad #[.agg #[.int .i64 p.labels, .int .i64 p.degree, c.v, d.v], s.v, t.v] w (Ret [.at (.int .i64), .at (.int .i64), .at .bool] fun (i : Int) (j : Int) (b : Bool) w' => Ext w w' ∧ match badIx p x with | some q => b = true ∧ i = q.1 ∧ j = q.2 | none => b = false) := by
  refine C_s_zeBad ?_
  unfold V_s_zeBad
  refine NEW_intro fun pp w1 hp1 hs1 hE1 hb1 => ?_
  replace h := h.ext hE1
  replace hx := hx.ext hE1
  replace hy := hy.ext hE1
  have h64 := flat_ok hx
  rw [hx.len, hy.len]
  refine ⟨IN x.length fun i w' => Ext w1 w' ∧ ∀ u, u < i → ∀ v, v < x.length → edgeB p (x.getD u 0) (x.getD v 0) = true, MN x.length, IN_zero ⟨Ext.refl _, fun u hu => absurd hu (by omega)⟩, ?_⟩
  rintro _ w2 ⟨i, rfl, hi, hE2, hI⟩
  intros
  refine cond_dec (fun hlt => ?_) (fun hge => ⟨hE1.trans hE2, ?_⟩)
  · have hi' : i < x.length := by omega
    refine (hx.ext hE2).ixI hi' fun q _ hc => LD_int hc ?_
    refine ⟨IN x.length fun j w' => Ext w1 w' ∧ ∀ v, v < j → edgeB p x[i] (x.getD v 0) = true, MN x.length, IN_zero ⟨hE2, fun v hv => absurd hv (by omega)⟩, ?_⟩
    rintro _ w3 ⟨j, rfl, hj, hE3, hJ⟩
    intros
    refine cond_dec (fun hlt2 => ?_) (fun hge2 => ?_)
    · have hj' : j < x.length := by omega
      refine (hy.ext hE3).ixI hj' fun q _ hc => LD_int hc (LD_iiss (hb1.ext hE3) ?_)
      refine call (prEdge_ok (h.ext hE3) (h64 _ (List.getElem_mem hi')) (h64 _ (List.getElem_mem hj'))) ?_
      rintro y w4 ⟨hy4, hE4⟩
      have ex : y = edgeB p x[i] x[j] := by rw [Bool.eq_iff_iff, hy4, edgeB_iff]
      subst ex
      refine cond_not (fun hf => ⟨hE1.trans (hE3.trans hE4), ?_⟩) (fun ht => IN_next hx.le hj' ⟨hE3.trans hE4, fun v hv => ?_⟩)
      · rw [badIx_hit hi' hj' hI (fun v hv => by rw [get_at hi']; exact hJ v hv) (by rw [get_at hi', get_at hj']; exact hf)]
        exact ⟨rfl, rfl, rfl⟩
      · by_cases hvj : v = j
        · subst hvj; rw [get_at hj']; exact ht
        · exact hJ v (by omega)
    · refine IN_next hx.le hi' ⟨hE3, fun u hu v hv => ?_⟩
      by_cases hui : u = i
      · subst hui; rw [get_at hi']; exact hJ v (by omega)
      · exact hI u (by omega) v hv
  · rw [badIx_no fun u hu v hv => hI u (by omega) v hv]

end Go.Proofs.YtndebacmnpghkaaGreat
end

section
/- The first label map between two problems, in plain words: no program in sight. -/
namespace Go.Proofs.YtndebacmnpghkaaGreat
open Go.GX Go.RowKit
set_option maxRecDepth 100000

noncomputable def bestM (p q : Prob) : Nat → List Int → Option (List Int)
  | 0, f => open Classical in if MapOk p q f then some f else none
  | n + 1, f => (List.range q.labels.toNat).findSome? fun (b : Nat) => bestM p q n (f ++ [(b : Int)])

theorem bestM_hit {p q : Prob} {n m : Nat} {f h : List Int} (hm : m < q.labels.toNat) (hn : ∀ b, b < m → bestM p q n (f ++ [(b : Int)]) = none) (hh : bestM p q n (f ++ [(m : Int)]) = some h) : bestM p q (n + 1) f = some h := range_first hm hn hh

theorem bestM_no {p q : Prob} {n : Nat} {f : List Int} (hn : ∀ b, b < q.labels.toNat → bestM p q n (f ++ [(b : Int)]) = none) : bestM p q (n + 1) f = none := by
  exact range_none hn

theorem bestM_none {p q : Prob} : ∀ {n : Nat} {f : List Int}, (∀ g, ¬ MapOk p q (f ++ g)) → bestM p q n f = none
  | 0, f, h => by
    rw [bestM, if_neg]
    have := h []
    rwa [List.append_nil] at this
  | n + 1, f, h => bestM_no fun b _ => bestM_none fun g => by rw [List.append_assoc]; exact h _

theorem bestM_map {p q : Prob} : ∀ {n : Nat} {f h : List Int}, bestM p q n f = some h → MapOk p q h
  | 0, f, h, e => by
    rw [bestM] at e
    by_cases hm : MapOk p q f
    · rw [if_pos hm] at e; cases e; exact hm
    · rw [if_neg hm] at e; cases e
  | n + 1, f, h, e => by
    rw [bestM] at e
    obtain ⟨b, _, hb⟩ := List.exists_of_findSome?_eq_some e
    exact bestM_map hb

noncomputable def mapPQ (p q : Prob) : Option (List Int) := bestM p q p.labels.toNat []

/-! ### The program's search: configurations whose greatest label is the last one with an image -/

def LastOk (f : List Int) (L M : List (List Int)) : Prop := ∀ c ∈ L, ∀ h : 0 < c.length, c[c.length - 1] = (f.length : Int) - 1 → sortI (img f c) ∈ M
def UpTo (f : List Int) (L M : List (List Int)) : Prop := ∀ c ∈ L, (∀ x ∈ c, x < (f.length : Int)) → sortI (img f c) ∈ M

theorem img_snoc {f c : List Int} (hc : ∀ x ∈ c, 0 ≤ x ∧ x < (f.length : Int)) (g : List Int) : img (f ++ g) c = img f c := by
  unfold img
  apply List.map_congr_left
  intro x hx
  have := hc x hx
  rw [List.getD_eq_getElem?_getD, List.getD_eq_getElem?_getD, List.getElem?_append_left (by omega)]

theorem last_le {c : List Int} (hs : c.Pairwise (· ≤ ·)) (h : 0 < c.length) : ∀ x ∈ c, x ≤ c[c.length - 1] := fun x hx => by
  obtain ⟨i, hi, rfl⟩ := List.mem_iff_getElem.1 hx
  by_cases he : i = c.length - 1
  · subst he; exact Int.le_refl _
  · exact List.pairwise_iff_getElem.1 hs i (c.length - 1) hi (by omega) (by omega)

theorem UpTo.nil {L M : List (List Int)} {size labels : Int} (hL : ConfOk L size labels) (hs : 1 ≤ size) : UpTo [] L M := fun c hc h => by
  obtain ⟨i, hi, rfl⟩ := List.mem_iff_getElem.1 hc
  obtain ⟨h1, _, h3⟩ := hL.row i hi
  have h0 : 0 < L[i].length := by omega
  have h4 := h _ (List.getElem_mem h0)
  have h5 := h3 _ (List.getElem_mem h0)
  simp at h4
  omega

theorem UpTo.snoc {L M : List (List Int)} {size labels : Int} (hL : ConfOk L size labels) (hs : 1 ≤ size) {f : List Int} {b : Int} (h : UpTo f L M) (hl : LastOk (f ++ [b]) L M) : UpTo (f ++ [b]) L M := fun c hc hx => by
  obtain ⟨i, hi, rfl⟩ := List.mem_iff_getElem.1 hc
  obtain ⟨h1, h2, h3⟩ := hL.row i hi
  have h0 : 0 < L[i].length := by omega
  by_cases he : L[i][L[i].length - 1] = ((f ++ [b]).length : Int) - 1
  · exact hl _ hc h0 he
  · have hlt : ∀ x ∈ L[i], 0 ≤ x ∧ x < (f.length : Int) := fun x hx' => by
      have a1 := last_le h2 h0 x hx'
      have a2 := hx _ (List.getElem_mem (show L[i].length - 1 < L[i].length by omega))
      have a3 := h3 x hx'
      rw [List.length_append, List.length_singleton] at a2 he
      omega
    rw [img_snoc hlt]
    exact h _ hc fun x hx' => (hlt x hx').2

theorem last_of {L M : List (List Int)} {size labels : Int} (hL : ConfOk L size labels) {f g : List Int} (h : ∀ c ∈ L, sortI (img (f ++ g) c) ∈ M) : LastOk f L M := fun c hc h0 he => by
  obtain ⟨i, hi, rfl⟩ := List.mem_iff_getElem.1 hc
  obtain ⟨h1, h2, h3⟩ := hL.row i hi
  have := h _ hc
  rwa [img_snoc fun x hx => ⟨(h3 x hx).1, by have := last_le h2 h0 x hx; omega⟩] at this

/-- What is known of the images of the first labels. -/
structure PreOk (p q : Prob) (f : List Int) : Prop where
  len : (f.length : Int) ≤ p.labels
  labs : AllIn f 0 (q.labels - 1)
  nodes : UpTo f p.nodes q.nodes
  edges : UpTo f p.edges q.edges

theorem PreOk.nil {p q : Prob} (hp : PGood p) : PreOk p q [] := by
  have h1 := hp.lab
  have h2 := hp.deg
  exact ⟨by simp; omega, fun x hx => by simp at hx, UpTo.nil hp.nodes (by omega), UpTo.nil hp.edges (by omega)⟩

theorem PreOk.snoc {p q : Prob} (hp : PGood p) {f : List Int} {b : Nat} (h : PreOk p q f) (hl : (f.length : Int) < p.labels) (hb : (b : Int) < q.labels) (hn : LastOk (f ++ [(b : Int)]) p.nodes q.nodes) (he : LastOk (f ++ [(b : Int)]) p.edges q.edges) : PreOk p q (f ++ [(b : Int)]) := by
  have h1 := hp.deg
  refine ⟨by simp; omega, fun x hx => ?_, h.nodes.snoc hp.nodes (by omega) hn, h.edges.snoc hp.edges (by omega) he⟩
  rcases List.mem_append.1 hx with hx | hx
  · exact h.labs x hx
  · rw [List.mem_singleton.1 hx]; omega

theorem PreOk.map {p q : Prob} (hp : PGood p) {f : List Int} (h : PreOk p q f) (hl : (f.length : Int) = p.labels) : MapOk p q f := by
  have ha : ∀ {L M : List (List Int)} {size : Int}, ConfOk L size p.labels → UpTo f L M → ∀ c ∈ L, sortI (img f c) ∈ M := fun {L M size} hL hU c hc => by
    obtain ⟨i, hi, rfl⟩ := List.mem_iff_getElem.1 hc
    obtain ⟨h1, h2, h3⟩ := hL.row i hi
    exact hU _ hc fun x hx => by have := h3 x hx; omega
  exact ⟨hl, h.labs, ha hp.nodes h.nodes, ha hp.edges h.edges⟩

theorem map_last {p q : Prob} (hp : PGood p) {f g : List Int} (h : MapOk p q (f ++ g)) : LastOk f p.nodes q.nodes ∧ LastOk f p.edges q.edges := ⟨last_of hp.nodes h.nodes, last_of hp.edges h.edges⟩

/-! ### The reference's search: sets of images that all configurations support -/

def setAt (S : List Int) (a : Int) : Nat := (S.getD a.toNat 0).toNat
/-- Each image is in its set. -/
def Under (g S : List Int) : Prop := ∀ a : Nat, a < g.length → (setAt S a).testBit (g.getD a 0).toNat = true

/-- A choice from the sets of a configuration's labels: equal labels have one image. -/
structure ChoiceOf (k : Nat) (S c e : List Int) : Prop where
  len : e.length ≤ c.length
  in_ : ∀ i (h : i < e.length) (h' : i < c.length), ∃ b : Nat, e[i] = b ∧ b < k ∧ (setAt S c[i]).testBit b = true
  same : ∀ i (h : i + 1 < e.length) (h' : i + 1 < c.length), c[i] = c[i + 1] → e[i] = e[i + 1]

theorem ChoiceOf.nil (k : Nat) (S c : List Int) : ChoiceOf k S c [] := ⟨by simp, fun i h => by simp at h, fun i h => by simp at h⟩

/-- A label of a configuration with one of its images in a full choice that is good. -/
def Backs (k : Nat) (good : List Int → Bool) (S c : List Int) (a : Int) (b : Nat) (pre : List Int) : Prop := ∃ e, ChoiceOf k S c e ∧ e.length = c.length ∧ pre <+: e ∧ good e = true ∧ ∃ i, ∃ (h : i < e.length) (h' : i < c.length), c[i] = a ∧ e[i] = b

/-- All images in the sets of a configuration's labels have a choice. -/
def Sup (k : Nat) (good : List Int → Bool) (S c : List Int) : Prop := ∀ a ∈ c, ∀ b, (setAt S a).testBit b = true → Backs k good S c a b []

theorem choice_eq {k : Nat} {S c e f : List Int} (h : ChoiceOf k S c e) (hl : e.length = c.length) (h1 : ∀ a ∈ c, ∀ b, (setAt S a).testBit b = true → (b : Int) = f.getD a.toNat 0) : e = img f c := by
  apply List.ext_getElem
  · rw [hl]; simp [img]
  · intro i h2 h3
    obtain ⟨b, hb, _, hbit⟩ := h.in_ i h2 (by omega)
    have := h1 _ (List.getElem_mem (by omega)) b hbit
    rw [hb, this]
    simp [img]

theorem img_choice {k : Nat} {S c g : List Int} {labels : Int} (hk : AllIn g 0 (k - 1)) (hc : AllIn c 0 (labels - 1)) (hl : (g.length : Int) = labels) (hU : Under g S) : ChoiceOf k S c (img g c) := by
  have hin : ∀ x ∈ c, x.toNat < g.length ∧ (x.toNat : Int) = x := fun x hx => by have := hc x hx; omega
  refine ⟨by simp [img], fun i h h' => ?_, fun i h h' he => ?_⟩
  · have h1 := hin _ (List.getElem_mem h')
    have h2 := hU _ h1.1
    have h3 := hk _ (List.getElem_mem h1.1)
    have h4 : (img g c)[i] = g.getD (c[i]).toNat 0 := by simp [img]
    have h5 : g.getD (c[i]).toNat 0 = g[(c[i]).toNat] := get_at h1.1
    refine ⟨(g[(c[i]).toNat]).toNat, by rw [h4, h5]; omega, by omega, ?_⟩
    rw [h1.2, h5] at h2
    exact h2
  · simp [img, he]

/-- What a map takes a configuration to is a choice: nothing of it is lost. -/
theorem under_backs {k : Nat} {S c g : List Int} {labels : Int} {good : List Int → Bool} (hk : AllIn g 0 (k - 1)) (hc : AllIn c 0 (labels - 1)) (hl : (g.length : Int) = labels) (hU : Under g S) (hg : good (img g c) = true) {a : Int} (ha : a ∈ c) : Backs k good S c a (g.getD a.toNat 0).toNat [] := by
  obtain ⟨i, hi, rfl⟩ := List.mem_iff_getElem.1 ha
  have h1 := hc _ (List.getElem_mem hi)
  have h2 : (c[i]).toNat < g.length := by omega
  have h3 : g.getD (c[i]).toNat 0 = g[(c[i]).toNat] := get_at h2
  have h4 := hk _ (List.getElem_mem h2)
  exact ⟨img g c, img_choice hk hc hl hU, by simp [img], List.nil_prefix, hg, i, by simpa [img] using hi, hi, rfl, by rw [h3]; simp only [img, List.getElem_map]; rw [h3]; omega⟩

/-- The last sets hold one image each: they are a map. -/
theorem sup_map {p q : Prob} (hp : PGood p) {S f : List Int} (hl : (f.length : Int) = p.labels) (hf : AllIn f 0 (q.labels - 1)) (hne : ∀ a : Nat, a < f.length → setAt S a ≠ 0) (h1 : ∀ a : Nat, a < f.length → ∀ b, (setAt S a).testBit b = true → (b : Int) = f.getD a 0)
    (hn : ∀ c ∈ p.nodes, Sup q.labels.toNat (nodeB q) S c) (he : ∀ c ∈ p.edges, Sup q.labels.toNat (nodeB2 q) S c) : MapOk p q f := by
  have hd := hp.deg
  have main : ∀ {L : List (List Int)} {size : Int} {good : List Int → Bool}, ConfOk L size p.labels → 1 ≤ size → (∀ c ∈ L, Sup q.labels.toNat good S c) → ∀ c ∈ L, good (img f c) = true := fun {L size good} hL hs hS c hc => by
    obtain ⟨i, hi, rfl⟩ := List.mem_iff_getElem.1 hc
    obtain ⟨a1, a2, a3⟩ := hL.row i hi
    have h0 : 0 < L[i].length := by omega
    have hin : ∀ x ∈ L[i], x.toNat < f.length ∧ (x.toNat : Int) = x := fun x hx => by have := a3 x hx; omega
    have b1 := hin _ (List.getElem_mem h0)
    have hz := hne _ b1.1
    rw [b1.2] at hz
    obtain ⟨b, hb⟩ := Nat.exists_testBit_of_ne_zero hz
    obtain ⟨e, hC, hel, _, hg, _⟩ := hS _ hc _ (List.getElem_mem h0) b hb
    rw [← choice_eq hC hel fun a ha b' hb' => by
      have b2 := hin a ha
      have := h1 _ b2.1 b' (by rw [b2.2]; exact hb')
      exact this]
    exact hg
  refine ⟨hl, hf, fun c hc => ?_, fun c hc => ?_⟩
  · have := main hp.nodes (by omega) hn c hc
    simpa [nodeB] using this
  · have := main hp.edges (by omega) he c hc
    simpa [nodeB2] using this

end Go.Proofs.YtndebacmnpghkaaGreat
end

section
/- Tables of configurations: the reference. -/
namespace Go.Proofs.YtndebacmnpghkaaGreat
open Go.GX Go.RowKit
set_option maxRecDepth 100000

/-- A table of configurations. -/
def TabR (w : World) (g : Sl) (n k : Nat) (L : List (List Int)) : Prop := ∃ G : List Bool, R w g G ∧ G.length = n ^ k ∧ ∀ u, u < G.length → G.getD u false = decide (sortI (digs n k u) ∈ L)

theorem TabR.ext {w w' : World} {g : Sl} {n k : Nat} {L : List (List Int)} (h : TabR w g n k L) (hE : Ext w w') : TabR w' g n k L := by
  obtain ⟨G, h1, h2, h3⟩ := h
  exact ⟨G, h1.ext hE, h2, h3⟩

/-- A table of the call's own. -/
def TabO (w : World) (g : Sl) (n k : Nat) (L : List (List Int)) : Prop := ∃ (b : Nat) (G : List Bool), OwnL w b T.t_bool g G ∧ G.length = n ^ k ∧ ∀ u, u < G.length → G.getD u false = decide (sortI (digs n k u) ∈ L)
theorem TabO.tab {w : World} {g : Sl} {n k : Nat} {L : List (List Int)} (h : TabO w g n k L) : TabR w g n k L := by
  obtain ⟨b, G, h1, h2, h3⟩ := h
  exact ⟨G, (h1.rep fun _ _ => trivial).any, h2, h3⟩
theorem TabO.ext {w w' : World} {g : Sl} {n k : Nat} {L : List (List Int)} (h : TabO w g n k L) (hE : Ext w w') : TabO w' g n k L := by
  obtain ⟨b, G, h1, h2, h3⟩ := h
  exact ⟨b, G, h1.ext hE, h2, h3⟩
theorem TabO.stepB {w w' : World} {g : Sl} {n k : Nat} {L : List (List Int)} {p : Addr} {t : TypeId} {cs : List Value} (h : TabO w g n k L) (hb : Box w p t cs) (ht : t ≠ T.t_bool) (hs : Step w w' (some p.block)) : TabO w' g n k L := by
  obtain ⟨b, G, h1, h2, h3⟩ := h
  exact ⟨b, G, h1.stepB hb ht hs, h2, h3⟩

theorem digs_I64 {n k x : Nat} (hn : 1 ≤ n ∧ n ≤ 8) : ∀ y ∈ digs n k x, I64 y := fun y hy => by
  obtain ⟨u, _, rfl⟩ := List.mem_map.1 hy
  have : x / n ^ u % n < n := Nat.mod_lt _ (by omega)
  show I64 (((x / n ^ u % n : Nat)) : Int)
  generalize x / n ^ u % n = z at this
  unfold I64; omega

theorem pow_tab {n k : Nat} (hn : n ≤ 8) (hk : k ≤ 4) : n ^ k ≤ 4096 := by
  have b1 : n ^ k ≤ 8 ^ k := Nat.pow_le_pow_left hn _
  have b2 : 8 ^ k ≤ 8 ^ 4 := Nat.pow_le_pow_right (by decide) hk
  have b3 : 8 ^ 4 = 4096 := by decide
  omega

theorem reTable_ok {w : World} {s : Sl} {L : List (List Int)} (h : R w s L) {n k : Nat} (hn : 1 ≤ n ∧ n ≤ 8) (hk : k ≤ 4) :
    Calls Tryz.prog F.s_reTable #[s.v, .int .i64 (n : Int), .int .i64 (k : Int)] w (Ret [.at .sl] fun (r : Sl) w' => Ext w w' ∧ TabO w' r n k L) := by
  refine C_s_reTable ?_
  unfold V_s_reTable
  refine ⟨fun (many : Int) (j : Int) w' => w = w' ∧ ∃ i : Nat, j = i ∧ i ≤ k ∧ many = ((n ^ i : Nat) : Int), fun _ j _ => k - j.toNat, ⟨rfl, 0, rfl, Nat.zero_le _, by simp⟩, ?_⟩
  rintro _ _ w1 ⟨rfl, i, rfl, hi, rfl⟩
  intros
  refine cond_dec (fun hlt => ?_) (fun hge => ?_)
  · have h1 : n ^ (i + 1) ≤ 4096 := pow_tab hn.2 (by omega)
    have e : ((n ^ i : Nat) : Int) * (n : Int) = ((n ^ (i + 1) : Nat) : Int) := by rw [Nat.pow_succ]; push_cast; rfl
    rw [e, wrap_of (by omega) (by omega), wrap_of (by omega) (by omega)]
    refine ⟨⟨rfl, i + 1, by omega, by omega, rfl⟩, by simp only []; omega⟩
  have : i = k := by omega
  subst this
  have hN := pow_tab (k := i) hn.2 hk
  refine RUN_make (α := Bool) slt_bool (d := false) rfl (by omega) (by unfold maxLen; omega) fun g w2 hE2 hO => ?_
  have hgl : g.len = n ^ i := by rw [hO.1]; simp
  rw [hgl]
  have hgo : ∀ b, oB g b → w.heap.size ≤ b := fun b hb => (hO.blk b hb).1
  have hEb : ∀ {w' : World}, Chg w2 w' (oB g) → Ext w w' := fun hC => hC.ext0 hE2 hgo
  refine ⟨IN (n ^ i) fun x w' => Chg w2 w' (oB g) ∧ ∃ G : List Bool, OwnL w' w.heap.size T.t_bool g G ∧ G.length = n ^ i ∧ ∀ u, u < x → G.getD u false = decide (sortI (digs n i u) ∈ L), MN (n ^ i), IN_zero ⟨Chg.refl _ _, _, hO, by simp, fun u hu => absurd hu (by omega)⟩, ?_⟩
  rintro _ w3 ⟨x, rfl, hx, hC3, G, hG, hGl, hGt⟩
  intros
  refine cond_dec (fun hlt => ?_) (fun hge2 => ?_)
  · have hxN : x < n ^ i := by omega
    refine ⟨fun (l : Sl) (rest : Int) w' => ∃ j : Nat, j ≤ i ∧ rest = ((x / n ^ j : Nat) : Int) ∧ Ext w3 w' ∧ OwnL w' w3.heap.size T.t_int l (digs n j x), fun l _ _ => i - l.len, ⟨0, Nat.zero_le _, by simp, Ext.refl _, by simpa [digs] using OwnL.nil _ _ _⟩, ?_⟩
    rintro l _ w4 ⟨j, hj, rfl, hE4, hl⟩
    intros
    have hll : l.len = j := by rw [hl.1, digs_len]
    rw [hll]
    refine cond_dec (fun hlt2 => ⟨by omega, ?_⟩) (fun hge3 => ?_)
    · have em : Int.tmod ((x / n ^ j : Nat) : Int) (n : Int) = ((x / n ^ j % n : Nat) : Int) := by rw [Int.ofNat_tmod]
      have edv : Int.tdiv ((x / n ^ j : Nat) : Int) (n : Int) = ((x / n ^ (j + 1) : Nat) : Int) := by rw [← Int.ofNat_tdiv, Nat.div_div_eq_div_mul, Nat.pow_succ]
      rw [em]
      have hdj := digs_I64 (k := j + 1) (x := x) hn
      rw [digs_succ] at hdj
      refine RUN_lit1 (α := Int) slt_int _ rfl (by decide) fun y w5 hE5 hO5 => ?_
      have hl5 := hl.ext hE5
      refine RUN_append (α := Int) slt_int hl5 (by have := hE4.size_le; have := hE5.size_le; omega) (hO5.rep (by intro z hz; exact hdj z (List.mem_append_right _ hz))).any (by simp [digs_len]; omega) (by simp [maxLen, digs_len]; omega) fun l' w6 hl6 hs6 => ⟨by omega, ?_⟩
      have hE6 : Ext w3 w6 := hs6.ext0 (hE4.trans hE5) fun b hb => (hl5.blk b hb).1
      have hdv : x / n ^ (j + 1) ≤ x := Nat.div_le_self _ _
      rw [edv, wrapN (by omega)]
      have hl'l : l'.len = j + 1 := by rw [hl6.1]; simp [digs_len]
      refine ⟨⟨j + 1, by omega, rfl, hE6, by rw [digs_succ]; exact hl6⟩, by simp only [hll, hl'l]; omega⟩
    · have hje : j = i := by omega
      subst hje
      have hE03 := hEb hC3
      refine call (prSorted_ok (hl.rep (digs_I64 hn)).any (by rw [digs_len]; omega)) ?_
      rintro r w5 ⟨hE5, hO5⟩
      have hE35 := hE4.trans hE5
      refine call (prHas_ok (h.ext (hE03.trans hE35)) (hO5.rep (sortI_I64 (digs_I64 hn))).any) ?_
      rintro y w6 ⟨hy, hE6⟩
      have ey : y = decide (sortI (digs n j x) ∈ L) := hy
      have hE36 := hE35.trans hE6
      have hG6 := hG.ext hE36
      refine IX_own hG6 (i := x) (by omega) rfl fun q hq => ?_
      refine ST_own hG6 (i := x) (by omega) hq y rfl fun w7 hG7 hs7 => ?_
      have hC7 : Chg w2 w7 (oB g) := (hC3.trans (Chg.of_ext hE36)).trans (.of_step hs7 fun k hk => hk)
      refine IN_next (by omega) hxN ⟨hC7, _, hG7, by simp [hGl], fun u hu => ?_⟩
      rw [ey]
      by_cases hux : u = x
      · subst hux
        rw [List.getD_eq_getElem?_getD, List.getElem?_set_self (by omega)]; rfl
      · rw [List.getD_eq_getElem?_getD, List.getElem?_set_ne (fun h => hux h.symm), ← List.getD_eq_getElem?_getD]
        exact hGt u (by omega)
  · have : x = n ^ i := by omega
    subst this
    exact ⟨hEb hC3, _, G, hG, hGl, fun u hu => hGt u (by omega)⟩

/-- What the table says of a list of labels, read with the first one as the highest digit. -/
theorem tab_at {n : Nat} (hn : 0 < n) {e : List Int} (he : Dig n e) {L : List (List Int)} : decide (sortI (digs n e.length (valL n e.reverse)) ∈ L) = decide (sortI e ∈ L) := by
  have h1 := digs_valL hn he.rev
  rw [List.length_reverse] at h1
  rw [h1, sortI_congr (List.reverse_perm e)]

end Go.Proofs.YtndebacmnpghkaaGreat
end
