/- Own texts, merged: Elim5, ElimN, Stable, Far, Dom, ConfMapPure, ConfMap, Pull1, Pull2, PullN0, PullN, Endless, BoundIn, BoundArg, BoundOk, BoundRight, BoundS, BoundTxt, BoundTxt2, PbPure, BoundMem, BoundSz, BoundMark, PbMem, ParseRo2. -/
import Derived.Test.YtaeledhbkdakcaaGreatDoorM6
set_option linter.unusedVariables false
section
/- Full lists of node sets, the node step: the program. -/
namespace Go.Proofs.YtaeledhbkdakcaaGreatDoor
open Go.GX Go.RowKit
set_option maxRecDepth 100000

theorem RUN_make0 {x : Int} {n : Nat} (hx : x = (n : Nat)) (hn : n ≤ 1000) {w : World} {K : Sl → World → Prop} (hk : ∀ s w', Ext w w' → OwnL w' w.heap.size T.t_int s ([] : List Int) → K s w') : RUN Tryz.prog (.at .sl) (Instr.makeSlice T.t_sl_int (.int .i64 0) (.int .i64 x)) w K := by
  subst hx
  obtain ⟨i, hi, hz0, hs, hby⟩ := slt_int.parts
  have hr := run_make (P := Tryz.prog) w T.t_sl_int T.t_int i (.int .i64 0) slt_int.under hi hz0 .i64 .i64 0 (n : Int) (by omega) (by omega) (by rw [hby]; omega) (by omega)
  unfold RUN
  rw [hr]
  refine hk ⟨some ⟨w.heap.size, 0, none⟩, 0, n⟩ _ (ext_push w _) ?_
  have hone : (Value.int .i64 0).cells = #[.int .i64 0] := rfl
  refine own_empty (α := Int) (cap := n) (cur := madeCells (Value.int .i64 0).cells ((n : Int).toNat * i.size)) ?_ (by unfold maxLen; omega) ?_
  · exact Array.getElem?_push_size
  · rw [hs, hone]; simp [madeCells, Rep.sz]

theorem fulls_take {p : Prob} {M : List (List Int)} {i : Nat} (hi : i < M.length) : fullsOf p (M.take (i + 1)) = fullsOf p (M.take i) ++ fullsOf p [M[i]] := by
  unfold fullsOf
  rw [List.take_succ_eq_append_getElem hi, List.filter_append, List.map_append]

theorem fulls_len {p : Prob} (M : List (List Int)) : (fullsOf p M).length ≤ M.length := by
  unfold fullsOf
  rw [List.length_map]
  exact List.length_filter_le _ _

structure FullsIs (w : World) (p : Prob) (r : Sl) (w' : World) : Prop where
  ext : Ext w w'
  ex : ∃ A tt, RowsD w' w.heap.size T.t_int T.t_sl_int r A tt ∧ (∀ l, l ∈ A ↔ l ∈ nodeFull p) ∧ A.length ≤ 262144

theorem fullLists_k2_ok {w w4 : World} {c d x : Sl} {p : Prob} {pa : Addr} (hg : PGood p) (hf : ¬ (p.degree = 4 ∧ 6 < p.labels)) (hE : Ext w w4) (hNS : NS w4 pa p c d) (hR : R w4 x (msets (2 ^ p.labels.toNat - 1) (p.degree.toNat - 1))) :
    V_ptr_i_nodeSets_fullLists_k2 (FullsIs w p) pa x x.len w4 := by
  have hlab := hg.lab
  have hdeg := hg.deg
  have htwo := two_lab hg
  unfold V_ptr_i_nodeSets_fullLists_k2
  have hml := Nat.le_trans (msets_len (2 ^ p.labels.toNat - 1) (p.degree.toNat - 1)) (pow_sets hg hf _ (Nat.le_refl _))
  rw [hR.len]
  generalize hM : msets (2 ^ p.labels.toNat - 1) (p.degree.toNat - 1) = M at *
  have hMm : ∀ r ∈ M, InM (2 ^ p.labels.toNat - 1) (p.degree.toNat - 1) r := fun r hr => mem_msets.1 (by rw [hM]; exact hr)
  have hfl64 : ∀ L : List (List Int), (∀ r ∈ L, r ∈ M) → ∀ r ∈ fullsOf p L, ∀ y ∈ r, I64 y := fun L hL r hr y hy => by
    unfold fullsOf at hr
    obtain ⟨e, he, rfl⟩ := List.mem_map.1 hr
    have hI := hMm e (hL e (List.mem_filter.1 he).1)
    rcases List.mem_append.1 ((sortI_perm _).mem_iff.1 hy) with h1 | h1
    · obtain ⟨z, hz, rfl⟩ := List.mem_map.1 h1
      have := hI.labs z hz
      unfold I64; omega
    · rw [List.mem_singleton.1 h1]
      have := complM_lt p (e.map (· + 1))
      unfold I64; omega
  refine ⟨IN2 M.length fun i (out : Sl) w' => Ext w4 w' ∧ ∃ ss, RowsD w' w4.heap.size T.t_int T.t_sl_int out (fullsOf p (M.take i)) ss, MN2 M.length, IN2_zero ⟨Ext.refl _, [], by simpa [fullsOf] using RowsD.nil _ _ _ _⟩, ?_⟩
  rintro out _ w5 ⟨i, rfl, hi, hE5, ss, hS5⟩
  intros
  refine cond_dec (fun hlt => ?_) (fun hge => ?_)
  · have hi' : i < M.length := by omega
    have hMi := hMm _ (List.getElem_mem hi')
    refine hR.ixL0 hE5 hi' fun q row hrow hc => LD_sl hc ?_
    obtain ⟨af, A, hbA, _, _, _⟩ := hNS.ext hE5
    refine LD_bi1 hbA ?_
    have ek : p.degree = ((p.degree.toNat : Nat) : Int) := by omega
    refine RUN_make0 ek (by omega) fun la w6 hE6 hO6 => ?_
    have hrow6 := (hrow.ext hE5).ext hE6
    rw [hrow6.len]
    have hz6 := hE6.size_le
    let c1 : List Int := M[i].map (· + 1)
    have hc1v : ∀ x ∈ c1, ∃ m : Nat, x = m ∧ m < 2 ^ p.labels.toNat := fun x hx => by
      obtain ⟨z, hz, rfl⟩ := List.mem_map.1 hx
      have := hMi.labs z hz
      exact ⟨(z + 1).toNat, by omega, by omega⟩
    have hMl := hMi.len
    have hone : ∀ {q : Bool}, (decide (complM p c1 ≠ 0) && fullB p (c1 ++ [complM p c1])) = q → fullsOf p [M[i]] = bif q then [sortI (c1 ++ [complM p c1])] else [] := fun {q} hq => by
      unfold fullsOf
      rw [List.filter_cons]
      have : (decide (complM p (M[i].map (· + 1)) ≠ 0) && fullB p (M[i].map (· + 1) ++ [complM p (M[i].map (· + 1))])) = q := hq
      rw [this]
      cases q <;> rfl
    have hskip : ∀ {w' : World}, Ext w5 w' → (decide (complM p c1 ≠ 0) && fullB p (c1 ++ [complM p c1])) = false → IN2 M.length (fun i (out : Sl) w' => Ext w4 w' ∧ ∃ ss, RowsD w' w4.heap.size T.t_int T.t_sl_int out (fullsOf p (M.take i)) ss) out (IntKind.i64.wrap ((i : Int) + 1)) w' ∧ MN2 M.length out (IntKind.i64.wrap ((i : Int) + 1)) w' < MN2 M.length out (i : Int) w5 := fun {w'} hE' hq => by
      refine IN2_next hR.le hi' ⟨hE5.trans hE', ss, ?_⟩
      rw [fulls_take hi', hone hq]
      simpa using hS5.ext hE'
    have hml2 : ∀ j, j ≤ M[i].length → ((M[i].take j).map (· + 1)).length = j := fun j hj => by rw [List.length_map, List.length_take]; omega
    refine ⟨IN2 M[i].length fun j (o : Sl) w' => OwnL w' w5.heap.size T.t_int o ((M[i].take j).map (· + 1)) ∧ Ext w5 w', MN2 M[i].length, IN2_zero ⟨hO6, hE6⟩, ?_⟩
    rintro o _ w7 ⟨j, rfl, hj, hO7, hE57⟩
    intros
    have hrow7 := (hrow.ext hE5).ext hE57
    have hz7 := hE57.size_le
    have hj2 := hml2 j hj
    refine cond_dec (fun hlt2 => ?_) (fun hge2 => ?_)
    · have hj' : j < M[i].length := by omega
      have hmj := hMi.labs _ (List.getElem_mem hj')
      refine hrow7.ixI hj' fun q _ hc => LD_int hc ?_
      rw [wrap_of (n := M[i][j] + 1) (by omega) (by omega)]
      refine RUN_lit1 (α := Int) slt_int _ rfl (by decide) fun y w8 hE8 hO8 => ?_
      have hO78 := hO7.ext hE8
      refine RUN_append (α := Int) slt_int hO78 (by have := hE8.size_le; omega) (hO8.rep (by intro x hx; rw [List.mem_singleton.1 hx]; show I64 _; unfold I64; omega)).any (by simp; omega) (by simp [maxLen]; omega) fun o' w9 hO9 hs9 => ?_
      refine IN2_next hrow7.le hj' ⟨?_, hs9.ext0 (hE57.trans hE8) fun k hk => (hO78.blk k hk).1⟩
      rw [map_take_succ hj']
      exact hO9
    · have : j = M[i].length := by omega
      subst this
      rw [List.take_length] at hO7
      have hc164 : ∀ x ∈ c1, I64 x := fun x hx => by obtain ⟨m, rfl, hm⟩ := hc1v x hx; unfold I64; omega
      have hc1l : c1.length = p.degree.toNat - 1 := by show (M[i].map (· + 1)).length = _; rw [List.length_map, hMl]
      refine call (completing_ok hg (hNS.ext (hE5.trans hE57)) (hO7.rep hc164).any hc1l hc1v) ?_
      rintro _ w10 ⟨rfl, hE10⟩
      have hE510 := hE57.trans hE10
      have hclt := complM_lt p c1
      have hcI : I64 (complM p c1) := by unfold I64; omega
      refine cond_eq (fun h0 => hskip hE510 ?_) (fun hne => ?_)
      · have h0' : complM p c1 = 0 := h0
        simp [h0']
      · have hne' : complM p c1 ≠ 0 := hne
        refine RUN_lit1 (α := Int) slt_int _ rfl (by decide) fun y w11 hE11 hO11 => ?_
        have hO711 := (hO7.ext hE10).ext hE11
        have hz10 := hE10.size_le
        have hz11 := hE11.size_le
        refine RUN_append (α := Int) slt_int hO711 (by omega) (hO11.rep (by intro x hx; rw [List.mem_singleton.1 hx]; exact hcI)).any (by simp; omega) (by simp [maxLen]; omega) fun o2 w12 hO12 hs12 => ?_
        have hE512 : Ext w5 w12 := hs12.ext0 (hE510.trans hE11) fun k hk => (hO711.blk k hk).1
        have hc2v : ∀ x ∈ c1 ++ [complM p c1], ∃ m : Nat, x = m ∧ m < 2 ^ p.labels.toNat := fun x hx => by
          rcases List.mem_append.1 hx with h1 | h1
          · exact hc1v x h1
          · rw [List.mem_singleton.1 h1]; exact ⟨(complM p c1).toNat, by omega, by omega⟩
        have hc264 : ∀ x ∈ c1 ++ [complM p c1], I64 x := fun x hx => by obtain ⟨m, rfl, hm⟩ := hc2v x hx; unfold I64; omega
        have hc2l : (c1 ++ [complM p c1]).length = p.degree.toNat := by rw [List.length_append, hc1l]; simp; omega
        refine call (isFull_ok hg (hNS.ext (hE5.trans hE512)) (hO12.rep hc264).any hc2l hc2v) ?_
        rintro _ w13 ⟨rfl, hE13⟩
        have hE513 := hE512.trans hE13
        refine cond_b (fun ht => ?_) (fun hff => hskip hE513 (by rw [hff]; simp))
        have hO13 : OwnL w13 w5.heap.size T.t_int o2 (c1 ++ [complM p c1]) := hO12.ext hE13
        refine call (sort_ok hO13 (by omega)) ?_
        rintro w14 ⟨hO14, hs14⟩
        have hE514 : Ext w5 w14 := hs14.ext0 hE513 fun k hk => (hO13.blk k hk).1
        refine RUN_lit1 (α := Sl) slt_rows o2 rfl (by decide) fun y2 w15 hE15 hO15 => ?_
        have hE515 := hE514.trans hE15
        have hS15 := hS5.ext hE515
        have hz5 := hE5.size_le
        have hz15 := hE515.size_le
        have hfl := fulls_len (p := p) (M.take i)
        have htl : (M.take i).length ≤ i := by rw [List.length_take]; omega
        refine RUN_append_rowD slt_rows (by decide) hS15 (by omega) ((hO14.ext hE15).low hz5) (hS5.fresh (hO14.ext hE15) (Nat.le_refl _)) hO15 (by omega) (by unfold maxLen; omega) fun s' w16 hS16 hs16 => ?_
        refine IN2_next hR.le hi' ⟨hs16.ext0 (hE5.trans hE515) fun k hk => (hS15.own.blk k hk).1, ss ++ [o2], ?_⟩
        rw [fulls_take hi', hone (q := true) (by rw [ht]; simp [hne'])]
        exact hS16
  · have : i = M.length := by omega
    subst this
    rw [List.take_length] at hS5
    refine call (sortedLists_ok hS5 (hfl64 M fun r hr => hr) (by have := fulls_len (p := p) M; omega)) ?_
    rintro r w6 ⟨hC6, A, tt, hA, hAr, hAm, hAl⟩
    have hE46 : Ext w4 w6 := hC6.ext0 hE5 fun k hk => (hS5.own.blk k hk).1
    refine ⟨hE.trans hE46, A, tt, hA.low hE.size_le, fun l => ?_, by have := fulls_len (p := p) M; omega⟩
    rw [hAm, ← hM]
    exact fulls_mem (by omega)

theorem fullLists_ok {w : World} {c d : Sl} {p : Prob} {pa : Addr} (hg : PGood p) (hf : ¬ (p.degree = 4 ∧ 6 < p.labels)) (hNS : NS w pa p c d) :
    Calls Tryz.prog F.ptr_i_nodeSets_fullLists #[.pointer (some pa)] w (Ret [.at .sl] (FullsIs w p)) := by
  refine C_ptr_i_nodeSets_fullLists ?_
  unfold V_ptr_i_nodeSets_fullLists
  have hlab := hg.lab
  have hdeg := hg.deg
  have htwo := two_lab hg
  intro w1 hE1 _
  have hNS1 := hNS.ext hE1
  obtain ⟨af, A, hbA, _, _, _⟩ := id hNS1
  have en : p.labels = ((p.labels.toNat : Nat) : Int) := by omega
  have e1 : IntKind.i64.wrap (shlI .i64 1 p.labels - 1) = ((2 ^ p.labels.toNat - 1 : Nat) : Int) := by
    rw [en, shl_one (by omega), Int.toNat_natCast]
    have := Nat.two_pow_pos p.labels.toNat
    generalize 2 ^ p.labels.toNat = q at htwo this ⊢
    rw [wrap_of (by omega) (by omega)]; omega
  have e2 : IntKind.i64.wrap (p.degree - 1) = ((p.degree.toNat - 1 : Nat) : Int) := by rw [wrap_of (by omega) (by omega)]; omega
  have hms := multisets_ok w1 (n := 2 ^ p.labels.toNat - 1) (k := p.degree.toNat - 1) (by omega) (by omega) fun j hj => Nat.le_trans (pow_sets hg hf j hj) (by omega)
  have h64 : ∀ r ∈ msets (2 ^ p.labels.toNat - 1) (p.degree.toNat - 1), ∀ x ∈ r, I64 x := fun r hr x hx => by have := (mem_msets.1 hr).labs x hx; unfold I64; omega
  refine ⟨⟨Ext.refl _, LD_bi0 hbA ⟨by omega, Ext.refl _, Ext.refl _, Ext.refl _, LD_bi1 hbA ⟨Ext.refl _, Ext.refl _, ?_⟩⟩⟩, ⟨Ext.refl _, LD_bi1 hbA ⟨Ext.refl _, Ext.refl _, Ext.refl _, LD_bi0 hbA ⟨Ext.refl _, by omega, Ext.refl _, Ext.refl _, ?_⟩⟩⟩⟩
  · rw [e1, e2]
    refine call hms ?_
    rintro x w2 ⟨hE2, ss, hM⟩
    exact ⟨hE2, Ext.refl _, fullLists_k2_ok hg hf (hE1.trans hE2) (hNS1.ext hE2) (hM.rep h64)⟩
  · rw [e1, e2]
    refine call hms ?_
    rintro x w2 ⟨hE2, ss, hM⟩
    exact ⟨hE2, Ext.refl _, fullLists_k2_ok hg hf (hE1.trans hE2) (hNS1.ext hE2) (hM.rep h64)⟩

theorem node_byte {p : Prob} (hg : PGood p) : Byte (nodeFull p) := fun l hl x hx => by
  have h1 := (nodeFull_conf p l hl).vals x hx
  have h2 := two_lab hg
  exact ⟨x.toNat, by omega, by omega⟩

theorem node_len {p : Prob} : ∀ r ∈ nodeFull p, r.length = p.degree.toNat := fun l hl => (nodeFull_conf p l hl).len

theorem byte_congr {L L' : List (List Int)} (h : ∀ x, x ∈ L ↔ x ∈ L') (hB : Byte L') : Byte L := fun l hl x hx => hB l ((h l).1 hl) x hx

theorem nodeStep_ok {w : World} {c d : Sl} {p : Prob} (h : RProb w c d p) (hs : SmallP p) (hg : PGood p) :
    Calls Tryz.prog F.i_nodeStep #[.agg #[.int .i64 p.labels, .int .i64 p.degree, c.v, d.v]] w (Ret [.agg [.int .i64, .int .i64, .sl, .sl], .at .sl, .at .bool] (StIs w (nodeP p) (ndFew p) (nodeSets p))) := by
  refine C_i_nodeStep ?_
  unfold V_i_nodeStep
  refine NEW_intro fun pp w1 hp1 hs1 hE1 hb1 => NEW_intro fun px w2 hp2 hs2 hE2 hb2 => LD_bi1 (hb1.ext hE2) ?_
  have hE := hE1.trans hE2
  have hz1 := hE1.size_le
  replace h := h.ext hE
  replace hb1 := hb1.ext hE2
  have hlab := hg.lab
  have hd := hg.deg
  have hgo : ¬ (p.degree = 4 ∧ 6 < p.labels) → V_i_nodeStep_k1 (StIs w (nodeP p) (ndFew p) (nodeSets p)) pp px w2 := fun hfit => by
    unfold V_i_nodeStep_k1
    refine LD_iiss hb1 ?_
    refine call (newNodeSets_ok h hs hg) ?_
    rintro pa w3 ⟨hE3, hNS⟩
    refine call (fullLists_ok hg hfit hNS) ?_
    rintro x w4 hFI
    obtain ⟨hE4, A, tt, hA, hAm, hAl⟩ := hFI
    have hE24 := hE3.trans hE4
    have hBA := byte_congr hAm (node_byte hg)
    have h64A : ∀ r ∈ A, ∀ x ∈ r, I64 x := fun r hr x hx => by obtain ⟨m, rfl, hm⟩ := hBA r hr x hx; unfold I64; omega
    refine call (newLabels_ok (k := p.degree.toNat) (hA.rep h64A) hBA (fun r hr => node_len r ((hAm r).1 hr)) (by omega) hAl) ?_
    rintro a b w5 ⟨hE5, hOa, tb, hRb⟩
    rw [setsOf_congr hAm] at hOa
    rw [ownOf_congr hAm] at hRb
    have hE25 := hE24.trans hE5
    replace h := h.ext hE25
    replace hb1 := hb1.ext hE25
    replace hb2 := hb2.ext hE25
    refine NEW_ST (zs := [.slice none 0 0]) (one1s a) rfl fun ps w6 hps hE6 hb6 => ?_
    replace h := h.ext hE6
    replace hb1 := hb1.ext hE6
    replace hb2 := hb2.ext hE6
    replace hOa := hOa.ext hE6
    replace hRb := hRb.ext hE6
    have hSv : ∀ x ∈ setsOf (nodeFull p), ∃ m : Nat, x = m ∧ m < 256 := byte_sets rfl
    have hS64 : ∀ y ∈ setsOf (nodeFull p), I64 y := fun y hy => by obtain ⟨m, rfl, hm⟩ := setsOf_byte hy; unfold I64; omega
    have hE26 := hE25.trans hE6
    have hE06 := hE.trans hE26
    have haL : a.len = (setsOf (nodeFull p)).length := hOa.1
    refine LD_bs hb6 ?_
    refine call (within_ok _ _ _ _) ?_
    rintro _ _ ⟨rfl, rfl⟩
    rw [haL]
    refine cond_not (fun hf => ?_) (fun ht => LD_bs hb6 ?_)
    · exact zero_problem hE06 hb2 (by omega) fun w' hE' => ⟨hE', .inr ⟨rfl, fun hfew => inR_false hf ⟨by have := hfew.2.1; unfold nodeSets at this; omega, by have := hfew.2.2; unfold nodeSets at this; omega⟩⟩⟩
    · have hr := inR_true ht
      have hfew : ndFew p := ⟨hfit, by unfold nodeSets; omega, by unfold nodeSets; omega⟩
      have e2 : (2 : Int) = ((2 : Nat) : Int) := rfl
      rw [haL, e2]
      refine call (allowedBy_ok (p := fun l => (prodL (listsAt (setsOf (nodeFull p)) l)).any (nodeB2 p)) (by omega) (by omega) (pow_small8 (by omega) (by omega)) fun l hM w' t hE' hl => nodeStep1_ok h hs hg hb1 hb6 (hOa.rep hS64).any hSv (by omega) (.inl rfl) hM hE' hl) ?_
      rintro z w7 ⟨hE7, ssz, hz⟩
      intro w8 hE8 _
      have hE68 := hE7.trans hE8
      replace hb1 := hb1.ext hE68
      replace hb2 := hb2.ext hE68
      replace hb6 := hb6.ext hE68
      replace hOa := hOa.ext hE68
      replace hRb := hRb.ext hE68
      have hlt2 := hb2.lt
      have hz5 := hE25.size_le
      have hpp : pp.block ≠ px.block := by omega
      have hpsb : ps.block ≠ px.block := by omega
      refine ⟨fun b => b = px.block, hpsb, LD_bs hb6 ⟨by rw [add_block]; exact hpp, LD_bi1 hb1 ⟨hpsb, LD_bs hb6 ?_⟩⟩⟩
      rw [haL]
      refine ST_all hb2 (one4p _ _ _ _) rfl fun w9 hs9 hz9 hb9 => ⟨.of_step hs9 fun k hk => by cases hk; rfl, LD_iiss hb9 ?_⟩
      have hz6 := hE26.size_le
      have hz4 := hE24.size_le
      have hkeep : ∀ k, w2.heap.size ≤ k → k < w8.heap.size → w9.heap[k]? = w8.heap[k]? := fun k h1 h2 => hs9.block k h2 (by intro he; cases he; omega)
      have hmade : PGood (nodeP p) := (NdAsked.mk hg hfit hfew.2).made
      refine ⟨hs9.ext0 (hE06.trans hE68) fun k hk => by cases hk; omega, .inl ⟨rfl, hfew, rfl, rfl, NewP.low (base := w2.heap.size) ⟨?_, ?_, ?_, ?_, ?_⟩ hE.size_le⟩⟩
      · show I64 (((nodeSets p).length : Nat) : Int); unfold I64 nodeSets; omega
      · show I64 p.degree; unfold I64; omega
      · exact ((hRb.low (b := w2.heap.size) hz4).keep hkeep).own2.repD (conf_I64 hmade.nodes hmade.lab.2)
      · exact (((hz.ext hE8).low (b := w2.heap.size) hz6).keep hkeep).own2.repD (conf_I64 hmade.edges hmade.lab.2)
      · exact ((hOa.low (base' := w2.heap.size) hz4).keep fun k hk => hkeep k (by have := (hOa.blk k hk).1; omega) (hOa.blk k hk).2).rep hS64
  refine cond_eq (fun h4 => LD_bi0 hb1 (cond_dec (fun h6 => ?_) (fun h6 => hgo fun hh => h6 hh.2))) (fun h4 => hgo fun hh => h4 hh.1)
  exact zero_problem hE hb2 (by omega) fun w' hE' => ⟨hE', .inr ⟨rfl, fun hfew => hfew.1 ⟨h4, h6⟩⟩⟩

def ndGood (p : Prob) : Prop := PGood p ∧ ndFew p

end Go.Proofs.YtaeledhbkdakcaaGreatDoor
end

section
/- The node step, the reference; the node step of problems that are asked for, both sides. -/
namespace Go.Proofs.YtaeledhbkdakcaaGreatDoor
open Go.GX Go.RowKit
set_option maxRecDepth 100000

theorem RUN_makeB {x : Int} {n : Nat} (hx : x = (n : Nat)) (hn : n ≤ 1000000) {w : World} {K : Sl → World → Prop} (hk : ∀ s w', Ext w w' → OwnL w' w.heap.size T.t_bool s (List.replicate n false) → K s w') : RUN Tryz.prog (.at .sl) (Instr.makeSlice T.t_sl_bool (.int .i64 x) (.int .i64 x)) w K := by
  subst hx
  exact RUN_make (α := Bool) slt_bool (d := false) rfl (by omega) (by unfold maxLen; omega) hk

theorem elTabled_ok {w : World} {c d : Sl} {p : Prob} (h : RProb w c d p) (hg : PGood p) :
    Calls Tryz.prog F.s_elTabled #[.agg #[.int .i64 p.labels, .int .i64 p.degree, c.v, d.v]] w (Ret [.agg [.int .i64, .int .i64, .sl, .sl, .sl]] fun (x : Int) (y : Int) (z : Sl) (u : Sl) (g : Sl) w' => TIs w p c d x y z u g w') := by
  refine C_s_elTabled ?_
  unfold V_s_elTabled
  refine NEW_intro fun pp w1 hp1 hs1 hE1 hb1 => NEW_intro fun px w2 hp2 hs2 hE2 hb2 => ?_
  have hE := hE1.trans hE2
  replace hb1 := hb1.ext hE2
  have hlab := hg.lab
  have hdeg := hg.deg
  have hz := hE1.size_le
  have en : p.labels = ((p.labels.toNat : Nat) : Int) := by omega
  have hN : ∀ j, j ≤ p.degree.toNat → p.labels.toNat ^ j ≤ 4096 := fun j hj => by
    have b1 : p.labels.toNat ^ j ≤ 8 ^ j := Nat.pow_le_pow_left (by omega) _
    have b2 : 8 ^ j ≤ 8 ^ 4 := Nat.pow_le_pow_right (by decide) (by omega)
    have b3 : 8 ^ 4 = 4096 := by decide
    omega
  refine ⟨fun (s : Int) (k : Int) w' => ∃ j : Nat, k = j ∧ j ≤ p.degree.toNat ∧ s = ((p.labels.toNat ^ j : Nat) : Int) ∧ Ext w2 w', fun _ k _ => p.degree.toNat - k.toNat, ⟨0, rfl, Nat.zero_le _, by simp, Ext.refl _⟩, ?_⟩
  rintro _ _ w3 ⟨j, rfl, hj, rfl, hE3⟩
  intros
  replace hb1 := hb1.ext hE3
  replace hb2 := hb2.ext hE3
  have hNj := hN j hj
  refine LD_bi1 hb1 (cond_dec (fun hlt => LD_bi0 hb1 ?_) (fun hge => ?_))
  · have e1 : ((p.labels.toNat ^ j : Nat) : Int) * p.labels = ((p.labels.toNat ^ (j + 1) : Nat) : Int) := by rw [Nat.pow_succ, Int.natCast_mul, ← en]
    have hN1 := hN (j + 1) (by omega)
    rw [e1, wrapN (by omega), wrap_of (by omega) (by omega)]
    exact ⟨⟨j + 1, by omega, by omega, rfl, hE3⟩, by simp only []; omega⟩
  · have : j = p.degree.toNat := by omega
    subst this
    intro w4 hE4 _
    replace hb1 := hb1.ext hE4
    replace hb2 := hb2.ext hE4
    have hE24 := hE3.trans hE4
    have hE04 := hE.trans hE24
    have hz2 := hE24.size_le
    have hl1 := hb1.lt
    have hl2 := hb2.lt
    refine ⟨fun b => w4.heap.size ≤ b, by omega, LD_iiss hb1 ⟨?_, ?_⟩⟩
    · refine RUN_makeB rfl (by omega) fun g w5 hE5 hO5 => ⟨.of_ext hE5, NEW_intro fun px5 w6 hp6 hs6 hE6 hb6 => ⟨.of_ext (hE5.trans hE6), ?_⟩⟩
      have hE46 := hE5.trans hE6
      have hz5 := hE5.size_le
      refine ST_all hb6 (one5p _ _ _ _ _) rfl fun w7 hs7 hz7 hb7 => ⟨(Chg.of_ext hE46).trans (.of_step hs7 fun k hk => by cases hk; omega), ?_⟩
      have hE47 : Ext w4 w7 := hs7.ext0 hE46 fun k hk => by cases hk; omega
      exact elTabled_k4_ok hg (hE04.trans hE47) h (hb1.ext hE47) (hb2.ext hE47) hb7 ((hO5.ext hE6).stepB hb6 (by decide) hs7) (by omega) (by omega)
    · refine NEW_intro fun px5 w8 hp8 hs8 hE8 hb8 => ⟨.of_ext hE8, ?_⟩
      have hz8 := hE8.size_le
      refine RUN_makeB rfl (by omega) fun g w9 hE9 hO9 => ⟨.of_ext (hE8.trans hE9), .of_ext (hE8.trans hE9), ?_⟩
      have hE49 := hE8.trans hE9
      have hb9 := hb8.ext hE9
      refine ST_all hb9 (one5p _ _ _ _ _) rfl fun w10 hs10 hz10 hb10 => ⟨(Chg.of_ext hE49).trans (.of_step hs10 fun k hk => by cases hk; omega), ?_⟩
      have hE4x : Ext w4 w10 := hs10.ext0 hE49 fun k hk => by cases hk; omega
      exact elTabled_k4_ok hg (hE04.trans hE4x) h (hb1.ext hE4x) (hb2.ext hE4x) hb10 (hO9.stepB hb9 (by decide) hs10) (by omega) (by omega)

/-! ### The full lists, the reference's way -/

def gG (p : Prob) (c : List Int) : List Int := c.map (· + 1) ++ [complM p (c.map (· + 1))]
def gF (p : Prob) (c : List Int) : Bool := decide (complM p (c.map (· + 1)) ≠ 0) && (c.map (· + 1)).all (fun x => decide (x ≤ complM p (c.map (· + 1)))) && fullB p (gG p c)
def fullsS (p : Prob) (C : List (List Int)) : List (List Int) := (C.filter (gF p)).map (gG p)

theorem fullsS_mem {p : Prob} {d : Nat} (hd : p.degree.toNat = d + 1) {l : List Int} : l ∈ fullsS p (msets (2 ^ p.labels.toNat - 1) d) ↔ l ∈ nodeFull p := by
  rw [nodeFull_of' hd]
  unfold fullsS setLists
  rw [List.mem_map]
  constructor
  · rintro ⟨c, hc, rfl⟩
    rw [List.mem_filter] at hc
    have h2 := hc.2
    unfold gF at h2
    rw [Bool.and_eq_true, Bool.and_eq_true, decide_eq_true_eq, List.all_eq_true] at h2
    exact ⟨_, List.mem_map.2 ⟨c, hc.1, rfl⟩, h2.1.1, fun x hx => of_decide_eq_true (h2.1.2 x hx), h2.2, rfl⟩
  · rintro ⟨c, hc, h0, hle, hf, rfl⟩
    obtain ⟨e, he, rfl⟩ := List.mem_map.1 hc
    refine ⟨e, ?_, rfl⟩
    rw [List.mem_filter]
    refine ⟨he, ?_⟩
    unfold gF
    rw [Bool.and_eq_true, Bool.and_eq_true, decide_eq_true_eq, List.all_eq_true]
    exact ⟨⟨h0, fun x hx => decide_eq_true (hle x hx)⟩, hf⟩

theorem fullsS_take {p : Prob} {M : List (List Int)} {i : Nat} (hi : i < M.length) : fullsS p (M.take (i + 1)) = fullsS p (M.take i) ++ fullsS p [M[i]] := by
  unfold fullsS
  rw [List.take_succ_eq_append_getElem hi, List.filter_append, List.map_append]

theorem fullsS_len {p : Prob} (M : List (List Int)) : (fullsS p M).length ≤ M.length := by
  unfold fullsS
  rw [List.length_map]
  exact List.length_filter_le _ _

theorem last_max {n k : Nat} {c : List Int} (h : InM n k c) (hc : 0 < c.length) {v : Int} : (c.map (· + 1)).all (fun x => decide (x ≤ v)) = !decide (v < (c.map (· + 1))[(c.map (· + 1)).length - 1]'(by rw [List.length_map]; omega)) := by
  rw [Bool.eq_iff_iff, List.all_eq_true, Bool.not_eq_true', decide_eq_false_iff_not]
  have hlast := last_of_len hc fun x hx => (h.labs x hx).1
  have hel : (c.map (· + 1))[(c.map (· + 1)).length - 1]'(by rw [List.length_map]; omega) = (lastOf c : Int) + 1 := by
    rw [← hlast]; simp
  rw [hel]
  constructor
  · intro hx
    have := of_decide_eq_true (hx ((lastOf c : Int) + 1) (List.mem_map.2 ⟨lastOf c, by rw [← hlast]; exact List.getElem_mem _, rfl⟩))
    omega
  · intro hv x hx
    obtain ⟨y, hy, rfl⟩ := List.mem_map.1 hx
    have := le_last h.sorted (fun x hx => (h.labs x hx).1) y hy
    rw [decide_eq_true_eq]; omega

theorem elNode_k1_ok {w w4 : World} {c d : Sl} {p : Prob} {px1 px2 : Addr} (hg : PGood p) (hf : ¬ (p.degree = 4 ∧ 6 < p.labels)) (h : RProb w c d p) (hE : Ext w w4) (hb1 : Box w4 px1 T.t_i_Problem [.int .i64 p.labels, .int .i64 p.degree, c.v, d.v]) (hb2 : Box w4 px2 T.t_i_Problem [.int .i64 0, .int .i64 0, .slice none 0 0, .slice none 0 0]) (hp2 : w.heap.size ≤ px2.block) :
    V_s_elNode_k1 (StIs w (nodeP p) (ndFew p) (nodeSets p)) px1 px2 w4 := by
  have hlab := hg.lab
  have hdeg := hg.deg
  have htwo := two_lab hg
  unfold V_s_elNode_k1
  refine LD_iiss hb1 ?_
  refine call (elTabled_ok (h.ext hE) hg) ?_
  rintro x y z u g w5 ⟨rfl, rfl, rfl, rfl, hE5, hT5⟩
  refine NEW_ST (one5p _ _ _ _ _) rfl fun px5 w7 hp5 hE7 hb5 => ?_
  intro w8 hE8 _
  have hE48 := hE5.trans (hE7.trans hE8)
  have hE08 := hE.trans hE48
  have hT := hT5.ext (hE7.trans hE8)
  replace h := h.ext hE08
  replace hb1 := hb1.ext hE48
  replace hb2 := hb2.ext hE48
  replace hb5 := hb5.ext hE8
  have en : p.labels = ((p.labels.toNat : Nat) : Int) := by omega
  have e1 : IntKind.i64.wrap (shlI .i64 1 p.labels - 1) = ((2 ^ p.labels.toNat - 1 : Nat) : Int) := by
    rw [en, shl_one (by omega), Int.toNat_natCast]
    have := Nat.two_pow_pos p.labels.toNat
    generalize 2 ^ p.labels.toNat = q at htwo this ⊢
    rw [wrap_of (by omega) (by omega)]; omega
  have e2 : IntKind.i64.wrap (p.degree - 1) = ((p.degree.toNat - 1 : Nat) : Int) := by rw [wrap_of (by omega) (by omega)]; omega
  have hms := reChoices_ok w8 (n := 2 ^ p.labels.toNat - 1) (k := p.degree.toNat - 1) (by omega) (by omega) fun j hj => Nat.le_trans (pow_sets hg hf j hj) (by omega)
  have h64 : ∀ r ∈ msets (2 ^ p.labels.toNat - 1) (p.degree.toNat - 1), ∀ x ∈ r, I64 x := fun r hr x hx => by have := (mem_msets.1 hr).labs x hx; unfold I64; omega
  refine LD_bi0 hb1 ⟨by omega, LD_bi1 hb1 ?_⟩
  rw [e1, e2]
  refine call hms ?_
  rintro x w9 ⟨hE9, ssM, hRM⟩
  have hR := hRM.rep h64
  refine ⟨hE9, hE9, ?_⟩
  replace hE08 := hE08.ext hE9
  replace h := h.ext hE9
  replace hb1 := hb1.ext hE9
  replace hb2 := hb2.ext hE9
  replace hb5 := hb5.ext hE9
  replace hT := hT.ext hE9
  have hml := Nat.le_trans (msets_len (2 ^ p.labels.toNat - 1) (p.degree.toNat - 1)) (pow_sets hg hf _ (Nat.le_refl _))
  rw [hR.len]
  generalize hM : msets (2 ^ p.labels.toNat - 1) (p.degree.toNat - 1) = M at *
  have hMm : ∀ r ∈ M, InM (2 ^ p.labels.toNat - 1) (p.degree.toNat - 1) r := fun r hr => mem_msets.1 (by rw [hM]; exact hr)
  have hmem : ∀ l, l ∈ fullsS p M ↔ l ∈ nodeFull p := fun l => by rw [← hM]; exact fullsS_mem (by omega)
  refine ⟨IN2 M.length fun i (out : Sl) w' => Ext w9 w' ∧ ∃ ss, RowsD w' w9.heap.size T.t_int T.t_sl_int out (fullsS p (M.take i)) ss, MN2 M.length, IN2_zero ⟨Ext.refl _, [], by simpa [fullsS] using RowsD.nil _ _ _ _⟩, ?_⟩
  rintro out _ w10 ⟨i, rfl, hi, hE10, ss, hS10⟩
  intros
  refine cond_dec (fun hlt => ?_) (fun hge => ?_)
  · have hi' : i < M.length := by omega
    have hMi := hMm _ (List.getElem_mem hi')
    refine (hR.ext hE10).ixL hi' fun q row hrow hc => LD_sl hc ?_
    have hMl := hMi.len
    rw [hrow.len]
    let c1 : List Int := M[i].map (· + 1)
    have hc1v : ∀ x ∈ c1, ∃ m : Nat, x = m ∧ m < 2 ^ p.labels.toNat := fun x hx => by
      obtain ⟨z, hz, rfl⟩ := List.mem_map.1 hx
      have := hMi.labs z hz
      exact ⟨(z + 1).toNat, by omega, by omega⟩
    have hone : ∀ {q : Bool}, gF p M[i] = q → fullsS p [M[i]] = bif q then [c1 ++ [complM p c1]] else [] := fun {q} hq => by
      unfold fullsS
      rw [List.filter_cons, hq]
      cases q <;> rfl
    have hskip : ∀ {w' : World}, Ext w10 w' → gF p M[i] = false → V_s_elNode_k5 (IN2 M.length fun i (out : Sl) w' => Ext w9 w' ∧ ∃ ss, RowsD w' w9.heap.size T.t_int T.t_sl_int out (fullsS p (M.take i)) ss) (MN2 M.length) out (i : Int) w10 out w' := fun {w'} hE' hq => by
      unfold V_s_elNode_k5
      refine IN2_next hR.le hi' ⟨hE10.trans hE', ss, ?_⟩
      rw [fullsS_take hi', hone hq]
      simpa using hS10.ext hE'
    have hml2 : ∀ j, j ≤ M[i].length → ((M[i].take j).map (· + 1)).length = j := fun j hj => by rw [List.length_map, List.length_take]; omega
    refine ⟨IN2 M[i].length fun j (o : Sl) w' => OwnL w' w10.heap.size T.t_int o ((M[i].take j).map (· + 1)) ∧ Ext w10 w', MN2 M[i].length, IN2_zero ⟨OwnL.nil _ _ _, Ext.refl _⟩, ?_⟩
    rintro o _ w11 ⟨j, rfl, hj, hO11, hE11⟩
    intros
    have hrow11 := hrow.ext hE11
    have hz11 := hE11.size_le
    have hj2 := hml2 j hj
    refine cond_dec (fun hlt2 => ?_) (fun hge2 => ?_)
    · have hj' : j < M[i].length := by omega
      have hmj := hMi.labs _ (List.getElem_mem hj')
      refine hrow11.ixI hj' fun q _ hc => LD_int hc ?_
      rw [wrap_of (n := M[i][j] + 1) (by omega) (by omega)]
      refine RUN_lit1 (α := Int) slt_int _ rfl (by decide) fun y w12 hE12 hO12 => ?_
      have hO112 := hO11.ext hE12
      refine RUN_append (α := Int) slt_int hO112 (by have := hE12.size_le; omega) (hO12.rep (by intro x hx; rw [List.mem_singleton.1 hx]; show I64 _; unfold I64; omega)).any (by simp; omega) (by simp [maxLen]; omega) fun o' w13 hO13 hs13 => ?_
      refine IN2_next hrow11.le hj' ⟨?_, hs13.ext0 (hE11.trans hE12) fun k hk => (hO112.blk k hk).1⟩
      rw [map_take_succ hj']
      exact hO13
    · have : j = M[i].length := by omega
      subst this
      rw [List.take_length] at hO11
      have hc164 : ∀ x ∈ c1, I64 x := fun x hx => by obtain ⟨m, rfl, hm⟩ := hc1v x hx; unfold I64; omega
      have hc1l : c1.length = p.degree.toNat - 1 := by show (M[i].map (· + 1)).length = _; rw [List.length_map, hMl]
      have hE911 := hE10.trans hE11
      refine LD_iisss (hb5.ext hE911) ?_
      refine call (restM_ok hg (hT.ext hE911) (hO11.rep hc164).any hc1l hc1v) ?_
      rintro _ w14 ⟨rfl, hE14⟩
      have hE1014 := hE11.trans hE14
      have hclt := complM_lt p c1
      have hcI : I64 (complM p c1) := by unfold I64; omega
      have hol : o.len = c1.length := hO11.1
      rw [hol]
      refine cond_eq (fun h0 => hskip hE1014 ?_) (fun hne => ?_)
      · have h0' : complM p (M[i].map (· + 1)) = 0 := h0
        simp [gF, h0']
      · have hne' : complM p (M[i].map (· + 1)) ≠ 0 := hne
        have hk9 : (c1.all fun x => decide (x ≤ complM p c1)) = true → V_s_elNode_k9 (IN2 M.length fun i (out : Sl) w' => Ext w9 w' ∧ ∃ ss, RowsD w' w9.heap.size T.t_int T.t_sl_int out (fullsS p (M.take i)) ss) (MN2 M.length) (i : Int) w10 px5 out o (complM p c1) w14 := fun hall => by
          unfold V_s_elNode_k9
          refine RUN_lit1 (α := Int) slt_int _ rfl (by decide) fun y w15 hE15 hO15 => ?_
          have hO1115 := (hO11.ext hE14).ext hE15
          have hz14 := hE14.size_le
          have hz15 := hE15.size_le
          refine RUN_append (α := Int) slt_int hO1115 (by omega) (hO15.rep (by intro x hx; rw [List.mem_singleton.1 hx]; exact hcI)).any (by simp; omega) (by simp [maxLen]; omega) fun o2 w16 hO16 hs16 => ?_
          have hE1016 : Ext w10 w16 := hs16.ext0 (hE1014.trans hE15) fun k hk => (hO1115.blk k hk).1
          have hc2v : ∀ x ∈ c1 ++ [complM p c1], ∃ m : Nat, x = m ∧ m < 2 ^ p.labels.toNat := fun x hx => by
            rcases List.mem_append.1 hx with h1 | h1
            · exact hc1v x h1
            · rw [List.mem_singleton.1 h1]; exact ⟨(complM p c1).toNat, by omega, by omega⟩
          have hc264 : ∀ x ∈ c1 ++ [complM p c1], I64 x := fun x hx => by obtain ⟨m, rfl, hm⟩ := hc2v x hx; unfold I64; omega
          have hc2l : (c1 ++ [complM p c1]).length = p.degree.toNat := by rw [List.length_append, hc1l]; simp; omega
          have hE916 := hE10.trans hE1016
          refine LD_iisss (hb5.ext hE916) ?_
          refine call (full_ok hg (hT.ext hE916) (hO16.rep hc264).any hc2l hc2v) ?_
          rintro _ w17 ⟨rfl, hE17⟩
          have hE1017 := hE1016.trans hE17
          have hgF : gF p M[i] = fullB p (c1 ++ [complM p c1]) := by
            have hall' : ((M[i].map (· + 1)).all fun x => decide (x ≤ complM p (M[i].map (· + 1)))) = true := hall
            unfold gF
            rw [hall', decide_eq_true hne']
            rfl
          refine cond_b (fun ht => ?_) (fun hff => hskip hE1017 (by rw [hgF, hff]))
          refine RUN_lit1 (α := Sl) slt_rows o2 rfl (by decide) fun y2 w18 hE18 hO18 => ?_
          have hE1018 := hE1017.trans hE18
          have hS18 := hS10.ext hE1018
          have hz10 := hE10.size_le
          have hz18 := hE1018.size_le
          have hfl := fullsS_len (p := p) (M.take i)
          have htl : (M.take i).length ≤ i := by rw [List.length_take]; omega
          have hO17 := (hO16.ext hE17).ext hE18
          refine RUN_append_rowD slt_rows (by decide) hS18 (by omega) (hO17.low hz10) (hS10.fresh hO17 (Nat.le_refl _)) hO18 (by omega) (by unfold maxLen; omega) fun s' w19 hS19 hs19 => ?_
          unfold V_s_elNode_k5
          refine IN2_next hR.le hi' ⟨hs19.ext0 (hE10.trans hE1018) fun k hk => (hS18.own.blk k hk).1, ss ++ [o2], ?_⟩
          rw [fullsS_take hi', hone (q := true) (by rw [hgF, ht])]
          exact hS19
        refine cond_dec (fun hpos => ?_) (fun hz => hk9 (by
          have : c1 = [] := List.eq_nil_of_length_eq_zero (by omega)
          rw [this]; rfl))
        have e3 : IntKind.i64.wrap ((c1.length : Int) - 1) = ((c1.length - 1 : Nat) : Int) := by rw [wrap_of (by omega) (by omega)]; omega
        rw [e3]
        have hlm := last_max hMi (v := complM p c1) (by omega)
        refine ((hO11.rep hc164).any.ext hE14).ixI (i := c1.length - 1) (by show c1.length - 1 < c1.length; omega) fun q _ hc => LD_int hc ?_
        refine cond_dec (fun hlt3 => hskip hE1014 ?_) (fun hge3 => hk9 ?_)
        · have h1 : ((M[i].map (· + 1)).all fun x => decide (x ≤ complM p (M[i].map (· + 1)))) = false := by
            have := hlm
            rw [decide_eq_true hlt3] at this
            exact this
          unfold gF
          rw [h1]; simp
        · rw [decide_eq_false hge3] at hlm
          exact hlm
  · have : i = M.length := by omega
    subst this
    rw [List.take_length] at hS10
    have hBA := byte_congr hmem (node_byte hg)
    have h64A : ∀ r ∈ fullsS p M, ∀ x ∈ r, I64 x := fun r hr x hx => by obtain ⟨m, rfl, hm⟩ := hBA r hr x hx; unfold I64; omega
    have hfl := fullsS_len (p := p) M
    replace hE08 := hE08.ext hE10
    replace h := h.ext hE10
    replace hb1 := hb1.ext hE10
    replace hb2 := hb2.ext hE10
    refine LD_iiss hb1 ?_
    refine call (elMade_ok (k := p.degree.toNat) false h hg (hS10.rep h64A) hBA (fun r hr => node_len r ((hmem r).1 hr)) (by omega) (by omega)) ?_
    rintro x y z u a b w11 hst
    have hmp : madeP p false (fullsS p M) p.degree.toNat = nodeP p := by
      rw [← made_node]
      unfold madeP
      rw [setsOf_congr hmem, ownOf_congr hmem]
    rw [hmp, setsOf_congr hmem] at hst
    have hst' : StIs w10 (nodeP p) (ndFew p) (nodeSets p) x y z u a b w11 := ⟨hst.1, by
      rcases hst.2 with ⟨r1, r2, r3⟩ | ⟨r1, r2⟩
      · exact .inl ⟨r1, ⟨hf, r2⟩, r3⟩
      · exact .inr ⟨r1, fun hA => r2 hA.2⟩⟩
    have hlt2 := hb2.lt
    exact StIs.through hst' hE08 (hb2.ext hst.1) hp2 (by omega) fun w' h => h

theorem elNode_ok {w : World} {c d : Sl} {p : Prob} (h : RProb w c d p) (hg : PGood p) :
    Calls Tryz.prog F.s_elNode #[.agg #[.int .i64 p.labels, .int .i64 p.degree, c.v, d.v]] w (Ret [.agg [.int .i64, .int .i64, .sl, .sl], .at .sl, .at .bool] (StIs w (nodeP p) (ndFew p) (nodeSets p))) := by
  refine C_s_elNode ?_
  unfold V_s_elNode
  refine NEW_intro fun pp w1 hp1 hs1 hE1 hb1 => NEW_intro fun px w2 hp2 hs2 hE2 hb2 => LD_bi1 (hb1.ext hE2) ?_
  have hE := hE1.trans hE2
  have hz1 := hE1.size_le
  replace hb1 := hb1.ext hE2
  have hgo : ¬ (p.degree = 4 ∧ 6 < p.labels) → V_s_elNode_k1 (StIs w (nodeP p) (ndFew p) (nodeSets p)) pp px w2 := fun hfit => elNode_k1_ok hg hfit h hE hb1 hb2 (by omega)
  refine cond_eq (fun h4 => LD_bi0 hb1 (cond_dec (fun h6 => ?_) (fun h6 => hgo fun hh => h6 hh.2))) (fun h4 => hgo fun hh => h4 hh.1)
  exact zero_problem hE hb2 (by omega) fun w' hE' => ⟨hE', .inr ⟨rfl, fun hfew => hfew.1 ⟨h4, h6⟩⟩⟩
end Go.Proofs.YtaeledhbkdakcaaGreatDoor
end

section
/- slices.SortStableFunc at []int, for lists of numbers: the pieces of its code (swaps, rotations, insertion, merging) and what they bring about. -/
namespace Go.Proofs.YtaeledhbkdakcaaGreatDoor
open Go.GX Go.RowKit
set_option maxRecDepth 100000

/-! ### Places and swaps -/

def gt (l : List Int) (i : Nat) : Int := l.getD i 0
theorem gt_get {l : List Int} {i : Nat} (h : i < l.length) : gt l i = l[i] := by simp [gt, h]
def swp (l : List Int) (p q : Nat) : List Int := (l.set q (gt l p)).set p (gt l q)

theorem swp_perm {l : List Int} {p q : Nat} (hp : p < l.length) (hq : q < l.length) : (swp l p q).Perm l := by
  have := List.set_set_perm hq hp
  unfold swp
  rw [gt_get hp, gt_get hq]
  exact this

/-- The list that is being sorted: in memory, changed in its own block alone, a permutation of the first one. -/
structure Sd (w0 : World) (base : Nat) (s : Sl) (l0 : List Int) (w : World) (l : List Int) : Prop where
  own : OwnL w base T.t_int s l
  chg : Chg w0 w (oB s)
  perm : l.Perm l0

section
variable {w0 w w' : World} {base : Nat} {s : Sl} {l0 l : List Int} {cmp : Value} {key : Int → Int}

theorem Sd.ext (h : Sd w0 base s l0 w l) (hE : Ext w w') : Sd w0 base s l0 w' l := ⟨h.own.ext hE, h.chg.trans (.of_ext hE), h.perm⟩
theorem Sd.len (h : Sd w0 base s l0 w l) : l.length = l0.length := h.perm.length_eq
theorem Sd.mem (h : Sd w0 base s l0 w l) {i : Nat} (hi : i < l0.length) : gt l i ∈ l0 := by
  have hi' : i < l.length := by rw [h.len]; exact hi
  rw [gt_get hi']
  exact h.perm.mem_iff.1 (List.getElem_mem hi')
theorem Sd.rep (h : Sd w0 base s l0 w l) (hI : ∀ x ∈ l0, I64 x) : R w s l := (h.own.rep fun x hx => hI x (h.perm.mem_iff.1 hx)).any
theorem Sd.ix (h : Sd w0 base s l0 w l) (hI : ∀ x ∈ l0, I64 x) {i : Nat} (hi : i < l0.length) {K : Addr → Prop} (hk : ∀ p, w.cell? p = some (.int .i64 (gt l i)) → K p) : IX s i 1 K := by
  have hi' : i < l.length := by rw [h.len]; exact hi
  refine (h.rep hI).ixI hi' fun p _ hc => hk p ?_
  rw [gt_get hi']; exact hc

theorem Sd.swap (h : Sd w0 base s l0 w l) (hI : ∀ x ∈ l0, I64 x) {p q : Nat} (hp : p < l0.length) (hq : q < l0.length) {K : World → Prop} (hk : ∀ w', Sd w0 base s l0 w' (swp l p q) → K w') :
    ∃ D : Nat → Prop, IX s p 1 fun a1 => IX s q 1 fun a2 => ¬ D a1.block ∧ (LD [.int .i64] a1 w fun x => LD [.int .i64] a2 w fun y => Chg w w D ∧ (IX s q 1 fun a3 => GX.ST a3 0 [.int .i64 x] w fun w9 => IX s p 1 fun a4 => GX.ST a4 0 [.int .i64 y] w9 K)) := by
  have hp' : p < l.length := by rw [h.len]; exact hp
  have hq' : q < l.length := by rw [h.len]; exact hq
  refine ⟨fun _ => False, h.ix hI hp fun a1 hc1 => h.ix hI hq fun a2 hc2 => ⟨not_false, LD_int hc1 (LD_int hc2 ⟨Chg.refl _ _, ?_⟩)⟩⟩
  refine IX_own h.own hq' rfl fun p1 hp1 => ST_own h.own hq' hp1 (gt l p) rfl fun w1 hO1 hs1 => ?_
  refine IX_own hO1 (by simpa using hp') rfl fun p2 hp2 => ST_own hO1 (by simpa using hp') hp2 (gt l q) rfl fun w2 hO2 hs2 => ?_
  exact hk w2 ⟨hO2, h.chg.trans ((Chg.of_step hs1 fun k hk => hk).trans (.of_step hs2 fun k hk => hk)), (swp_perm hp' hq').trans h.perm⟩

/-! ### Ranges swapped and rotated -/

/-! ### Order -/

def ltK (key : Int → Int) (x y : Int) : Prop := key x < key y ∨ (key x = key y ∧ x < y)
theorem ltK.trans {key : Int → Int} {x y z : Int} (h : ltK key x y) (k : ltK key y z) : ltK key x z := by
  unfold ltK at *; omega
theorem ltK.le {key : Int → Int} {x y : Int} (h : ltK key x y) : key x ≤ key y := by unfold ltK at h; omega

/-- Sorted between two places. -/
def SIn (key : Int → Int) (l : List Int) (a b : Nat) : Prop := ∀ i j, a ≤ i → i < j → j < b → ltK key (gt l i) (gt l j)
/-- What lies between two places lay there before. -/
def SubIn (l l' : List Int) (a b : Nat) : Prop := ∀ i, a ≤ i → i < b → ∃ j, a ≤ j ∧ j < b ∧ gt l' i = gt l j
def SameOut (l l' : List Int) (a b : Nat) : Prop := ∀ i, (i < a ∨ b ≤ i) → gt l' i = gt l i

theorem SubIn.refl (l : List Int) (a b : Nat) : SubIn l l a b := fun i h1 h2 => ⟨i, h1, h2, rfl⟩
theorem SubIn.trans {l l' l'' : List Int} {a b : Nat} (h : SubIn l l' a b) (k : SubIn l' l'' a b) : SubIn l l'' a b := fun i h1 h2 => by
  obtain ⟨j, h3, h4, h5⟩ := k i h1 h2
  obtain ⟨m, h6, h7, h8⟩ := h j h3 h4
  exact ⟨m, h6, h7, h5.trans h8⟩
theorem SubIn.wide {l l' : List Int} {a b a' b' : Nat} (h : SubIn l l' a b) (ho : SameOut l l' a b) (ha : a' ≤ a) (hb : b ≤ b') : SubIn l l' a' b' := fun i h1 h2 => by
  by_cases hi : a ≤ i ∧ i < b
  · obtain ⟨j, h3, h4, h5⟩ := h i hi.1 hi.2
    exact ⟨j, by omega, by omega, h5⟩
  · exact ⟨i, h1, h2, ho i (by omega)⟩
theorem SameOut.wide {l l' : List Int} {a b a' b' : Nat} (h : SameOut l l' a b) (ha : a' ≤ a) (hb : b ≤ b') : SameOut l l' a' b' := fun i hi => h i (by omega)
theorem SameOut.trans {l l' l'' : List Int} {a b : Nat} (h : SameOut l l' a b) (k : SameOut l' l'' a b) : SameOut l l'' a b := fun i hi => (k i hi).trans (h i hi)

/-- While a number sinks to its place: it lies at place j; the others are sorted; those behind it are greater. -/
structure Sink (key : Int → Int) (l l' : List Int) (a i j : Nat) (x : Int) : Prop where
  at_ : gt l' j = x
  sorted : ∀ p q, a ≤ p → p < q → q ≤ i → p ≠ j → q ≠ j → ltK key (gt l' p) (gt l' q)
  behind : ∀ q, j < q → q ≤ i → ltK key x (gt l' q)
  sub : ∀ p, a ≤ p → p ≤ i → p ≠ j → ∃ m, a ≤ m ∧ m < i ∧ gt l' p = gt l m
  out : ∀ p, (p < a ∨ i < p) → gt l' p = gt l p

/-! ### Merging -/

/-- What is known when the place of the cut is found. -/
structure Cut (key : Int → Int) (l : List Int) (a m b c e : Nat) : Prop where
  ac : a ≤ c
  cm : c ≤ m
  me : m ≤ e
  eb : e ≤ b
  low : ∀ p q, a ≤ p → p < c → e ≤ q → q < b → ltK key (gt l p) (gt l q)
  high : ∀ p q, m ≤ p → p < e → c ≤ q → q < m → key (gt l p) < key (gt l q)

/-- What the rotation leaves: two pairs of sorted ranges, and all of the first pair before all of the second. -/
structure Mid (key : Int → Int) (l l1 : List Int) (a b c e d : Nat) : Prop where
  s11 : SIn key l1 a c
  s12 : SIn key l1 c d
  s21 : SIn key l1 d e
  s22 : SIn key l1 e b
  n1 : ∀ i j, a ≤ i → i < c → c ≤ j → j < d → gt l1 i < gt l1 j
  n2 : ∀ i j, d ≤ i → i < e → e ≤ j → j < b → gt l1 i < gt l1 j
  cross : ∀ p q, a ≤ p → p < d → d ≤ q → q < b → ltK key (gt l1 p) (gt l1 q)
  sub : SubIn l l1 a b
  out : SameOut l l1 a b

/-- Behind the first phase: two blocks at most. -/
def Two (key : Int → Int) (l0 l : List Int) : Prop := (l0.length ≤ 20 → SIn key l 0 l0.length) ∧ (20 < l0.length → SIn key l 0 20 ∧ SIn key l 20 l0.length ∧ SubIn l0 l 0 20 ∧ SubIn l0 l 20 l0.length)

theorem SIn.pairwise {l : List Int} (h : SIn key l 0 l.length) : l.Pairwise (ltK key) := by
  rw [List.pairwise_iff_getElem]
  intro i j hi hj hij
  have := h i j (by omega) hij hj
  rwa [gt_get hi, gt_get hj] at this

end


end Go.Proofs.YtaeledhbkdakcaaGreatDoor
end

section
/- The reference's distances from a node. -/
namespace Go.Proofs.YtaeledhbkdakcaaGreatDoor
open Go.GX Go.RowKit
set_option maxRecDepth 100000

/-- What the search keeps in memory: distances, queue, apart from each other. -/
structure BfsMem (w1 w' : World) (b1 b2 : Nat) (E : Ends) (v : Nat) (sD sW : Sl) (D W : List Int) (k : Nat) : Prop where
  ext : Ext w1 w'
  dist : OwnL w' b1 T.t_int sD D
  queue : OwnL w' b2 T.t_int sW W
  bfs : Bfs E v W D k
  lo1 : w1.heap.size ≤ b1
  lo12 : b1 ≤ b2
  lo2 : b2 ≤ w'.heap.size
  sep : ∀ g, sD.v.ownBlock = some g → g < b2

theorem BfsMem.next {w1 w' w'' : World} {b1 b2 : Nat} {E : Ends} {v : Nat} {sD sW : Sl} {D W : List Int} {k : Nat} (h : BfsMem w1 w' b1 b2 E v sD sW D W k) (hE : Ext w' w'') : BfsMem w1 w'' b1 b2 E v sD sW D W k :=
  { h with ext := h.ext.trans hE, dist := h.dist.ext hE, queue := h.queue.ext hE, lo2 := Nat.le_trans h.lo2 hE.size_le }

end Go.Proofs.YtaeledhbkdakcaaGreatDoor
end

section
/- Dominating sets: both sides' tests. -/
namespace Go.Proofs.YtaeledhbkdakcaaGreatDoor
open Go.GX Go.RowKit
set_option maxRecDepth 100000

/-! ### The program's side -/

def upTo (n : Nat) : List Int := (List.range n).map fun (k : Nat) => (k : Int)

end Go.Proofs.YtaeledhbkdakcaaGreatDoor
end

section
/- Configuration maps, in plain words: no program in sight. -/
namespace Go.Proofs.YtaeledhbkdakcaaGreatDoor
open Go.GX

theorem EdgeIs.symm {p : Prob} {a b : Int} (h : EdgeIs p a b) : EdgeIs p b a := by
  unfold EdgeIs at h ⊢
  rw [sort2] at h ⊢
  by_cases h1 : a ≤ b
  · rw [if_pos h1] at h
    by_cases h2 : b ≤ a
    · have : a = b := by omega
      subst this
      rwa [if_pos h2]
    · rwa [if_neg h2]
  · rw [if_neg h1] at h
    rwa [if_pos (by omega)]

/-- The labels of configurations beside those of their rows. -/
def pairsOf (C R : List (List Int)) : List (Int × Int) := (C.zip R).flatMap fun u => u.1.zip u.2

structure CmOk (p q : Prob) (rows : List (List Int)) : Prop where
  len : rows.length = p.nodes.length
  row : ∀ r ∈ rows, (r.length : Int) = q.degree ∧ AllIn r 0 (q.labels - 1) ∧ NodeOk q r
  pairs : ∀ u ∈ pairsOf p.nodes rows, ∀ v ∈ pairsOf p.nodes rows, EdgeIs p u.1 v.1 → EdgeIs q u.2 v.2

/-! ### Places -/

structure McAsked (p q : Prob) (rows : List (List Int)) (n : Net) (L : List (List Int)) : Prop where
  left : PGood p
  right : PGood q
  deg : p.degree = q.degree
  map : CmOk p q rows
  good : Good n
  lab : LabOk p n.ends L
  clean : Clean p n.ends L
  full : ∀ r ∈ L, (r.length : Int) = p.degree

end Go.Proofs.YtaeledhbkdakcaaGreatDoor
end

section
/- Configuration maps, both sides. -/
namespace Go.Proofs.YtaeledhbkdakcaaGreatDoor
open Go.GX Go.RowKit
set_option maxRecDepth 100000

/-! ### Two slices of the call's own that lie apart -/

def Aside (s t : Sl) : Prop := ∀ k, s.v.ownBlock = some k → t.v.ownBlock ≠ some k

theorem Aside.symm {s t : Sl} (h : Aside s t) : Aside t s := fun k hk hk' => h k hk' hk

theorem Aside.new {w : World} {base : Nat} {s s' t : Sl} {l : List Int} (h : Aside s t) (ht : OwnL w base T.t_int t l) (hn : NewOr w s s') : Aside s' t := fun k hk hk' => by
  rcases hn with h1 | h1
  · exact h k (by rw [← h1]; exact hk) hk'
  · have h2 := h1 k hk
    have h3 := (ht.blk k hk').2
    omega

/-! ### Whether it is a configuration map: the program -/

/-! ### Whether it is a solution -/

end Go.Proofs.YtaeledhbkdakcaaGreatDoor
end

section
/- Solutions pulled back through the edge step, both sides. -/
namespace Go.Proofs.YtaeledhbkdakcaaGreatDoor
open Go.GX Go.RowKit
set_option maxRecDepth 100000

/-! ### In plain words -/

/-- What is known of a node's labels. -/
structure PullOk (p : Prob) (S r : List Int) : Prop where
  labs : ∀ x ∈ r, 0 ≤ x ∧ x < (S.length : Nat)
  len : r.length ≤ 1000
  some : (r.length : Int) = p.degree → (firstC (nodeB p) (listsAt S r) []).isSome = true

structure SetsOk (S : List Int) : Prop where
  pos : ∀ x ∈ S, ∃ m : Nat, x = m ∧ 1 ≤ m ∧ m < 256

theorem SetsOk.byte {S : List Int} (h : SetsOk S) : ∀ x ∈ S, ∃ m : Nat, x = m ∧ m < 256 := fun x hx => by
  obtain ⟨m, h1, _, h3⟩ := h.pos x hx
  exact ⟨m, h1, h3⟩

/-! ### The program -/

end Go.Proofs.YtaeledhbkdakcaaGreatDoor
end

section
/- Solutions pulled back through the edge step: the reference, and what is asked. -/
namespace Go.Proofs.YtaeledhbkdakcaaGreatDoor
open Go.GX Go.RowKit
set_option maxRecDepth 100000

/-- Slices that read as lists, apart from the slice that holds them. -/
def AlD (w : World) (s : Sl) (ss : List Sl) (L : List (List Int)) : Prop := ss.length = L.length ∧ ∀ i (h1 : i < ss.length) (h2 : i < L.length), SlR (fun b => ¬ oB s b) w ss[i] L[i]

theorem AlD.ext {w w' : World} {s : Sl} {ss : List Sl} {L : List (List Int)} (h : AlD w s ss L) (hE : Ext w w') : AlD w' s ss L := ⟨h.1, fun i h1 h2 => (h.2 i h1 h2).ext hE⟩

/-! ### What is asked -/

structure PeAsked (p : Prob) (n : Net) (L : List (List Int)) : Prop where
  good : edGood p
  net : Good n
  lab : LabOk (edgeP p) n.ends L
  clean : Clean (edgeP p) n.ends L

theorem edge_made {p : Prob} (h : edGood p) : PGood (edgeP p) := (EdAsked.mk h.1 h.2).made

theorem edge_small {p : Prob} (h : edGood p) : SmallP (edgeP p) := by
  have hd := h.1.deg
  have h1 := h.2.2
  exact ⟨small_filter (k := p.degree.toNat) h1 (by omega) _, small_filter (k := 2) h1 (by omega) _⟩

end Go.Proofs.YtaeledhbkdakcaaGreatDoor
end

section
/- Labels pulled through the node step: plain. -/
namespace Go.Proofs.YtaeledhbkdakcaaGreatDoor
open Go.GX Go.RowKit
set_option maxRecDepth 100000

def Stubless (E : Ends) : Prop := ∀ v i, port E v i ≠ some ((v : Int), (i : Int))

structure PnAsked (p : Prob) (n : Net) (L : List (List Int)) : Prop where
  good : ndGood p
  net : Good n
  stub : Stubless n.ends
  lab : LabOk (nodeP p) n.ends L
  clean : Clean (nodeP p) n.ends L

end Go.Proofs.YtaeledhbkdakcaaGreatDoor
end

section
/- Labels pulled through the node step, both sides. -/
namespace Go.Proofs.YtaeledhbkdakcaaGreatDoor
open Go.GX Go.RowKit
set_option maxRecDepth 100000

theorem get_of {l : List Int} {k : Nat} (hk : k < l.length) : l.getD k 0 = l[k] := by rw [List.getD_eq_getElem?_getD, List.getElem?_eq_getElem hk]; rfl

end Go.Proofs.YtaeledhbkdakcaaGreatDoor
end

section
/- One round of elimination, refusals of zero rounds, endless problems: both sides. -/
namespace Go.Proofs.YtaeledhbkdakcaaGreatDoor
open Go.GX Go.RowKit
set_option maxRecDepth 100000

/-- What a round answers. -/
def RdIs (w : World) (q : Prob) (few : Prop) (S : List Int) (x y : Int) (z u _a1 a2 : Sl) (b : Bool) (w' : World) : Prop :=
  Ext w w' ∧ ((b = true ∧ few ∧ x = q.labels ∧ y = q.degree ∧ NewP w.heap.size w' z u a2 q S) ∨ (b = false ∧ ¬ few))

def roundP (p : Prob) : Prob := nodeP (edgeP p)
def rdFew (p : Prob) : Prop := edFew p ∧ ndFew (edgeP p)
def rdGood (p : Prob) : Prop := PGood p ∧ rdFew p

theorem made_round {p : Prob} (hg : PGood p) (h : rdFew p) : PGood (roundP p) := node_made' (edge_made ⟨hg, h.1⟩) h.2
where node_made' {q : Prob} (hq : PGood q) (h : ndFew q) : PGood (nodeP q) := (NdAsked.mk hq h.1 h.2).made

theorem small_round {p : Prob} (hg : PGood p) (h : rdFew p) : SmallP (roundP p) := by
  have hq := edge_made ⟨hg, h.1⟩
  have hd := hq.deg
  have h1 := h.2.2.2
  exact ⟨small_filter (k := (edgeP p).degree.toNat) h1 (by omega) _, small_filter (k := 2) h1 (by omega) _⟩

theorem eliminate_ok {w : World} {c d : Sl} {p : Prob} (h : RProb w c d p) (hs : SmallP p) (hg : PGood p) :
    Calls Tryz.prog F.i_eliminate #[.agg #[.int .i64 p.labels, .int .i64 p.degree, c.v, d.v]] w (Ret [.agg [.int .i64, .int .i64, .sl, .sl], .at .sl, .at .sl, .at .bool] (RdIs w (roundP p) (rdFew p) (nodeSets (edgeP p)))) := by
  refine C_i_eliminate ?_
  unfold V_i_eliminate
  refine NEW_intro fun pp w1 hp1 hs1 hE1 hb1 => NEW_intro fun px w2 hp2 hs2 hE2 hb2 => ?_
  have hE := hE1.trans hE2
  have hz1 := hE1.size_le
  replace h := h.ext hE
  replace hb1 := hb1.ext hE2
  refine LD_iiss hb1 ?_
  refine call (edgeStep_ok h hs hg) ?_
  rintro x y z u a b w3 ⟨hE3, hr⟩
  replace hE := hE.ext hE3
  replace hb1 := hb1.ext hE3
  replace hb2 := hb2.ext hE3
  refine NEW_ST (one4p _ _ _ _) rfl fun pq w5 hpq hE5 hbq => ?_
  replace hE := hE.ext hE5
  replace hb1 := hb1.ext hE5
  replace hb2 := hb2.ext hE5
  rcases hr with ⟨rfl, hfe, rfl, rfl, hP⟩ | ⟨rfl, hno⟩
  · replace hP := hP.ext hE5
    have hgq := edge_made ⟨hg, hfe⟩
    refine cond_not (fun hf => by cases hf) (fun _ => LD_iiss hbq ?_)
    refine call (nodeStep_ok (p := edgeP p) hP.prob (edge_small ⟨hg, hfe⟩) hgq) ?_
    rintro x' y' z' u' a' b' w7 ⟨hE7, hr'⟩
    have hz5 := hE.size_le
    have hl2 := hb2.lt
    replace hE := hE.ext hE7
    replace hb1 := hb1.ext hE7
    replace hb2 := hb2.ext hE7
    refine NEW_ST (one4p _ _ _ _) rfl fun pr w9 hpr hE9 hbr => ?_
    replace hE := hE.ext hE9
    replace hb1 := hb1.ext hE9
    replace hb2 := hb2.ext hE9
    rcases hr' with ⟨rfl, hfn, rfl, rfl, hP'⟩ | ⟨rfl, hno'⟩
    · refine cond_not (fun hf => by cases hf) (fun _ => LD_iiss hbr ?_)
      refine ST_all hb2 (one4p _ _ _ _) rfl fun w11 hs11 hz11 hb11 => LD_iiss hb11 ?_
      exact ⟨hs11.ext0 hE fun k hk => by cases hk; omega, .inl ⟨rfl, ⟨hfe, hfn⟩, rfl, rfl, ((hP'.ext hE9).step hs11 (by omega)).low hz5⟩⟩
    · refine cond_not (fun _ => ?_) (fun ht => by cases ht)
      exact zero_problem hE hb2 (by omega) fun w' hE' => ⟨hE', .inr ⟨rfl, fun hA => hno' hA.2⟩⟩
  · refine cond_not (fun _ => ?_) (fun ht => by cases ht)
    exact zero_problem hE hb2 (by omega) fun w' hE' => ⟨hE', .inr ⟨rfl, fun hA => hno hA.1⟩⟩

theorem sEliminateRound_ok {w : World} {c d : Sl} {p : Prob} (h : RProb w c d p) :
    Calls Tryz.prog F.s_EliminateRound #[.agg #[.int .i64 p.labels, .int .i64 p.degree, c.v, d.v]] w (Ret [.agg [.int .i64, .int .i64, .sl, .sl], .at .sl, .at .sl, .at .bool] (RdIs w (roundP p) (rdGood p) (nodeSets (edgeP p)))) := by
  refine C_s_EliminateRound ?_
  unfold V_s_EliminateRound
  refine NEW_intro fun pp w1 hp1 hs1 hE1 hb1 => NEW_intro fun px w2 hp2 hs2 hE2 hb2 => ?_
  have hE := hE1.trans hE2
  have hz1 := hE1.size_le
  replace h := h.ext hE
  replace hb1 := hb1.ext hE2
  refine LD_iiss hb1 ?_
  refine call (sEdgeStep_ok h) ?_
  rintro x y z u a b w3 ⟨hE3, hr⟩
  replace hE := hE.ext hE3
  replace hb1 := hb1.ext hE3
  replace hb2 := hb2.ext hE3
  refine NEW_ST (one4p _ _ _ _) rfl fun pq w5 hpq hE5 hbq => ?_
  replace hE := hE.ext hE5
  replace hb1 := hb1.ext hE5
  replace hb2 := hb2.ext hE5
  rcases hr with ⟨rfl, hfe, rfl, rfl, hP⟩ | ⟨rfl, hno⟩
  · replace hP := hP.ext hE5
    have hgq := edge_made hfe
    refine cond_not (fun hf => by cases hf) (fun _ => LD_iiss hbq ?_)
    refine call (elNode_ok (p := edgeP p) hP.prob hgq) ?_
    rintro x' y' z' u' a' b' w7 ⟨hE7, hr'⟩
    have hz5 := hE.size_le
    have hl2 := hb2.lt
    replace hE := hE.ext hE7
    replace hb1 := hb1.ext hE7
    replace hb2 := hb2.ext hE7
    refine NEW_ST (one4p _ _ _ _) rfl fun pr w9 hpr hE9 hbr => ?_
    replace hE := hE.ext hE9
    replace hb1 := hb1.ext hE9
    replace hb2 := hb2.ext hE9
    rcases hr' with ⟨rfl, hfn, rfl, rfl, hP'⟩ | ⟨rfl, hno'⟩
    · refine cond_not (fun hf => by cases hf) (fun _ => LD_iiss hbr ?_)
      refine ST_all hb2 (one4p _ _ _ _) rfl fun w11 hs11 hz11 hb11 => LD_iiss hb11 ?_
      exact ⟨hs11.ext0 hE fun k hk => by cases hk; omega, .inl ⟨rfl, ⟨hfe.1, hfe.2, hfn⟩, rfl, rfl, ((hP'.ext hE9).step hs11 (by omega)).low hz5⟩⟩
    · refine cond_not (fun _ => ?_) (fun ht => by cases ht)
      exact zero_problem hE hb2 (by omega) fun w' hE' => ⟨hE', .inr ⟨rfl, fun hA => hno' hA.2.2⟩⟩
  · refine cond_not (fun _ => ?_) (fun ht => by cases ht)
    exact zero_problem hE hb2 (by omega) fun w' hE' => ⟨hE', .inr ⟨rfl, fun hA => hno ⟨hA.1, hA.2.1⟩⟩⟩

/-! ### Refusals of zero rounds -/

def zTwo (p : Prob) (r c : List Int) : Bool := decide (r.length = 2) && (c.contains (r.getD 0 0) && (c.contains (r.getD 1 0) && !(edgeB p (r.getD 0 0) (r.getD 1 0))))
def ZOk (p : Prob) (ps : List (List Int)) : Prop := ps.length = p.nodes.length ∧ ∀ i, i < p.nodes.length → zTwo p (ps.getD i []) (p.nodes.getD i []) = true

theorem ZOk.no {p : Prob} {ps : List (List Int)} {i : Nat} (hi : i < p.nodes.length) (hf : zTwo p (ps.getD i []) (p.nodes.getD i []) = false) : ¬ ZOk p ps := fun h => by
  have := h.2 i hi
  rw [hf] at this; cases this

theorem isZeroRefusal_ok {w : World} {c d s : Sl} {p : Prob} {ps : List (List Int)} (h : RProb w c d p) (hg : PGood p) (hs : SmallP p) (hps : R w s ps) :
    Calls Tryz.prog F.i_isZeroRefusal #[.agg #[.int .i64 p.labels, .int .i64 p.degree, c.v, d.v], s.v] w (Ret [.at .bool] fun (x : Bool) w' => (x = true ↔ ZOk p ps) ∧ Ext w w') := by
  refine C_i_isZeroRefusal ?_
  unfold V_i_isZeroRefusal
  refine NEW_intro fun pp w1 hp1 hs1 hE hb1 => LD_bs2 hb1 ?_
  replace h := h.ext hE
  replace hps := hps.ext hE
  have hno : ∀ {w' : World}, Ext w w' → ¬ ZOk p ps → (false = true ↔ ZOk p ps) ∧ Ext w w' := fun h1 h2 => ⟨by simp [h2], h1⟩
  rw [hps.len, h.nodes.len]
  refine cond_ne (fun hne => hno hE fun hZ => hne (by rw [hZ.1])) (fun heq => ?_)
  have hlen : ps.length = p.nodes.length := by have : (ps.length : Int) = p.nodes.length := heq; omega
  refine ⟨IN ps.length fun i w' => Ext w1 w' ∧ ∀ u, u < i → zTwo p (ps.getD u []) (p.nodes.getD u []) = true, MN ps.length, IN_zero ⟨Ext.refl _, fun u hu => absurd hu (by omega)⟩, ?_⟩
  rintro _ w2 ⟨i, rfl, hi, hE2, hI⟩
  intros
  refine cond_dec (fun hlt => ?_) (fun hge => ⟨⟨fun _ => ⟨hlen, fun u hu => hI u (by omega)⟩, fun _ => rfl⟩, hE.trans hE2⟩)
  have hi' : i < ps.length := by omega
  have hin : i < p.nodes.length := by omega
  have hg1 : ps.getD i [] = ps[i] := rowD hi'
  have hg2 : p.nodes.getD i [] = p.nodes[i] := rowD hin
  replace h := h.ext hE2
  replace hps := hps.ext hE2
  replace hb1 := hb1.ext hE2
  have hbad : ∀ {w' : World}, Ext w2 w' → zTwo p ps[i] p.nodes[i] = false → (false = true ↔ ZOk p ps) ∧ Ext w w' := fun hE' hf => hno (hE.trans (hE2.trans hE')) (ZOk.no hin (by rw [hg1, hg2]; exact hf))
  refine hps.ixL hi' fun q row hrow hc => LD_sl hc ?_
  rw [hrow.len]
  refine cond_ne (fun hne => fun w3 hE3 => hbad hE3 ?_) (fun heq2 => ?_)
  · have : ps[i].length ≠ 2 := by intro he; exact hne (by rw [he]; rfl)
    simp [zTwo, this]
  have hl2 : ps[i].length = 2 := by have : (ps[i].length : Int) = 2 := heq2; omega
  have h64 := flat_ok hrow.any
  have e0 : ps[i].getD 0 0 = ps[i][0] := get_of (by omega)
  have e1 : ps[i].getD 1 0 = ps[i][1] := get_of (by omega)
  have hd2 : decide (ps[i].length = 2) = true := decide_eq_true hl2
  have hz : zTwo p ps[i] p.nodes[i] = (p.nodes[i].contains ps[i][0] && (p.nodes[i].contains ps[i][1] && !(edgeB p ps[i][0] ps[i][1]))) := by
    unfold zTwo
    rw [e0, e1, hd2, Bool.true_and]
  refine LD_bs2 hb1 ?_
  refine h.nodes.ixL hin fun qn rown hrown hcn => LD_sl hcn ?_
  refine hrow.ixI (i := 0) (by omega) fun q0 hI0 hc0 => LD_int hc0 ?_
  refine QCALL_bool (p.nodes[i].contains ps[i][0]) (fun w' hw' => call (contains_ok (hrown.any.ext hw') _) fun x w'' hx => ⟨hx.1, hx.2 ▸ Ext.refl _⟩) ?_
  refine cond_not (fun hf => fun w4 hE4 => hbad hE4 (by rw [hz, hf]; rfl)) (fun ht0 => LD_bs2 hb1 ?_)
  refine h.nodes.ixL hin fun qn2 rown2 hrown2 hcn2 => LD_sl hcn2 ?_
  refine hrow.ixI (i := 1) (by omega) fun q1 hI1 hc1 => LD_int hc1 ?_
  refine QCALL_bool (p.nodes[i].contains ps[i][1]) (fun w' hw' => call (contains_ok (hrown2.any.ext hw') _) fun x w'' hx => ⟨hx.1, hx.2 ▸ Ext.refl _⟩) ?_
  refine cond_not (fun hf => fun w4 hE4 => hbad hE4 (by rw [hz, ht0, hf]; rfl)) (fun ht1 => LD_iiss hb1 ?_)
  refine hrow.ixI (i := 0) (by omega) fun q0 hI0 hc0 => LD_int hc0 ?_
  refine hrow.ixI (i := 1) (by omega) fun q1 hI1 hc1 => LD_int hc1 ?_
  refine QCALL_bool (edgeB p ps[i][0] ps[i][1]) (edgeQ h hs hg hI0 hI1) ?_
  intro w6 hE6
  refine cond_b (fun ht => hbad hE6 (by rw [hz, ht0, ht1, ht]; rfl)) (fun hf => ?_)
  refine IN_next (by have := hps.le; omega) hi' ⟨hE2.trans hE6, fun u hu => ?_⟩
  by_cases hui : u = i
  · subst hui; rw [hg1, hg2, hz, ht0, ht1, hf]; rfl
  · exact hI u (by omega)

theorem zeTwo_ok {w : World} {c d s x y : Sl} {p : Prob} {r l : List Int} (h : RProb w c d p) (hr : R w s r) (hx : R w x l) (hy : R w y l) :
    Calls Tryz.prog F.s_zeTwo #[.agg #[.int .i64 p.labels, .int .i64 p.degree, c.v, d.v], s.v, x.v, y.v] w (Ret [.at .bool] fun (b : Bool) w' => b = zTwo p r l ∧ Ext w w') := by
  refine C_s_zeTwo ?_
  unfold V_s_zeTwo
  refine NEW_intro fun pp w1 hp1 hs1 hE hb1 => ?_
  replace h := h.ext hE
  replace hr := hr.ext hE
  replace hx := hx.ext hE
  replace hy := hy.ext hE
  rw [hr.len]
  refine cond_eq (fun heq => ?_) (fun hne => fun w5 hE5 => ⟨?_, hE.trans hE5⟩)
  · have hl2 : r.length = 2 := by have : (r.length : Int) = 2 := heq; omega
    have e0 : r.getD 0 0 = r[0] := get_of (by omega)
    have e1 : r.getD 1 0 = r[1] := get_of (by omega)
    have hd2 : decide (r.length = 2) = true := decide_eq_true hl2
    have hz : zTwo p r l = (l.contains r[0] && (l.contains r[1] && !(edgeB p r[0] r[1]))) := by
      unfold zTwo
      rw [e0, e1, hd2, Bool.true_and]
    refine hr.ixI (i := 0) (by omega) fun q0 hI0 hc0 => LD_int hc0 ?_
    refine QCALL_bool (l.contains r[0]) (fun w' hw' => call (l1Has_ok (hx.ext hw') _) fun x w'' hx => ⟨hx.1, hx.2 ▸ Ext.refl _⟩) ?_
    refine cond_b (fun ht0 => ?_) (fun hf => fun w4 hE4 => ⟨by rw [hz, hf]; rfl, hE.trans hE4⟩)
    refine hr.ixI (i := 1) (by omega) fun q1 hI1 hc1 => LD_int hc1 ?_
    refine QCALL_bool (l.contains r[1]) (fun w' hw' => call (l1Has_ok (hy.ext hw') _) fun x w'' hx => ⟨hx.1, hx.2 ▸ Ext.refl _⟩) ?_
    refine cond_b (fun ht1 => LD_iiss hb1 ?_) (fun hf => fun w4 hE4 => ⟨by rw [hz, ht0, hf]; rfl, hE.trans hE4⟩)
    refine hr.ixI (i := 0) (by omega) fun q0 hI0 hc0 => LD_int hc0 ?_
    refine hr.ixI (i := 1) (by omega) fun q1 hI1 hc1 => LD_int hc1 ?_
    refine QCALL_bool (edgeB p r[0] r[1]) (prEdgeQ h hI0 hI1) ?_
    intro w2 hE2
    exact ⟨by rw [hz, ht0, ht1]; rfl, hE.trans hE2⟩
  · have : r.length ≠ 2 := by intro he; exact hne (by rw [he]; rfl)
    simp [zTwo, this]

theorem boZero_ok {w : World} {c d s : Sl} {p : Prob} {ps : List (List Int)} (h : RProb w c d p) (hg : PGood p) (hps : R w s ps) :
    Calls Tryz.prog F.s_boZero #[.agg #[.int .i64 p.labels, .int .i64 p.degree, c.v, d.v], s.v] w (Ret [.at .bool] fun (x : Bool) w' => (x = true ↔ ZOk p ps) ∧ Ext w w') := by
  refine C_s_boZero ?_
  unfold V_s_boZero
  refine NEW_intro fun p0 w1 hp1 hs1 hE hb0 => LD_iiss hb0 ?_
  replace h := h.ext hE
  replace hps := hps.ext hE
  refine C_s_CheckZeroRefusal ?_
  unfold V_s_CheckZeroRefusal
  refine NEW_intro fun pp w2 hp2 hs2 hE2 hb1 => LD_iiss hb1 ?_
  have hno : ∀ {w' : World}, Ext w w' → ¬ ZOk p ps → (false = true ↔ ZOk p ps) ∧ Ext w w' := fun h1 h2 => ⟨by simp [h2], h1⟩
  replace hE := hE.ext hE2
  replace h := h.ext hE2
  replace hps := hps.ext hE2
  refine call (prGood_ok h) ?_
  rintro x w3 ⟨hx, hE3⟩
  replace hE := hE.ext hE3
  replace h := h.ext hE3
  replace hps := hps.ext hE3
  replace hb1 := hb1.ext hE3
  refine cond_not (fun hf => by rw [hx.2 hg] at hf; cases hf) (fun _ => LD_bs2 hb1 ?_)
  rw [hps.len, h.nodes.len]
  refine cond_ne (fun hne => hno hE fun hZ => hne (by rw [hZ.1])) (fun heq => LD_bs2 hb1 ?_)
  have hlen : ps.length = p.nodes.length := by have : (ps.length : Int) = p.nodes.length := heq; omega
  rw [h.nodes.len]
  refine ⟨IN p.nodes.length fun i w' => Ext w3 w' ∧ ∀ u, u < i → zTwo p (ps.getD u []) (p.nodes.getD u []) = true, MN p.nodes.length, IN_zero ⟨Ext.refl _, fun u hu => absurd hu (by omega)⟩, ?_⟩
  rintro _ w4 ⟨i, rfl, hi, hE4, hI⟩
  intros
  refine cond_dec (fun hlt => ?_) (fun hge => ⟨⟨fun _ => ⟨hlen, fun u hu => hI u (by omega)⟩, fun _ => rfl⟩, hE.trans hE4⟩)
  have hin : i < p.nodes.length := by omega
  have hi' : i < ps.length := by omega
  have hg1 : ps.getD i [] = ps[i] := rowD hi'
  have hg2 : p.nodes.getD i [] = p.nodes[i] := rowD hin
  replace h := h.ext hE4
  replace hps := hps.ext hE4
  replace hb1 := hb1.ext hE4
  refine h.nodes.ixL hin fun qn rown hrown hcn => LD_sl hcn (LD_iiss hb1 ?_)
  refine hps.ixL hi' fun q row hrow hc => LD_sl hc ?_
  refine QCALL_bool (zTwo p ps[i] p.nodes[i]) (fun w' hw' => zeTwo_ok (h.ext hw') (hrow.any.ext hw') (hrown.any.ext hw') (hrown.any.ext hw')) ?_
  intro w5 hE5
  refine cond_not (fun hf => hno (hE.trans (hE4.trans hE5)) (ZOk.no hin (by rw [hg1, hg2]; exact hf))) (fun ht => ?_)
  refine IN_next (by have := h.nodes.le; omega) hin ⟨hE4.trans hE5, fun u hu => ?_⟩
  by_cases hui : u = i
  · subst hui; rw [hg1, hg2]; exact ht
  · exact hI u (by omega)

/-! ### Endless problems -/

def EdAns (p : Prob) (f : List Int) (ps : List (List Int)) (x ok : Bool) : Prop := (ok = true ∧ rdGood p ∧ (x = true ↔ MapOk (roundP p) p f ∧ ZOk p ps)) ∨ (ok = false ∧ x = false ∧ ¬ rdGood p)

theorem EdAns.eq {p : Prob} {f : List Int} {ps : List (List Int)} {x ok y ok' : Bool} (h : EdAns p f ps x ok) (h' : EdAns p f ps y ok') : x = y ∧ ok = ok' := by
  rcases h with ⟨rfl, h1, h2⟩ | ⟨rfl, rfl, h1⟩
  · rcases h' with ⟨rfl, _, h3⟩ | ⟨rfl, rfl, h3⟩
    · exact ⟨by rw [Bool.eq_iff_iff, h2, h3], rfl⟩
    · exact absurd h1 h3
  · rcases h' with ⟨rfl, h3, _⟩ | ⟨rfl, rfl, h3⟩
    · exact absurd h3 h1
    · exact ⟨rfl, rfl⟩
end Go.Proofs.YtaeledhbkdakcaaGreatDoor
end

section
/- Lists of problems as arguments. -/
namespace Go.Proofs.YtaeledhbkdakcaaGreatDoor
open Go.GX Go.RowKit
set_option maxRecDepth 100000

instance : Rep Prob where
  sz := 4
  rep D w cs q := ∃ z u : Sl, cs = [.int .i64 q.labels, .int .i64 q.degree, z.v, u.v] ∧ I64 q.labels ∧ I64 q.degree ∧ SlR D w z q.nodes ∧ SlR D w u q.edges
  len h := by obtain ⟨z, u, rfl, _⟩ := h; rfl
  agr hE h := by obtain ⟨z, u, rfl, a, b, c, d⟩ := h; exact ⟨z, u, rfl, a, b, c.agr hE, d.agr hE⟩
  weak hD h := by obtain ⟨z, u, rfl, a, b, c, d⟩ := h; exact ⟨z, u, rfl, a, b, c.weak hD RepP.pos, d.weak hD RepP.pos⟩
instance : RepP Prob := ⟨by decide⟩

/-- The cells of a problem at a place. -/
def PCells (w : World) (p : Addr) (q : Prob) (z u : Sl) : Prop := ∀ (j : Nat) (v : Value), [Value.int .i64 q.labels, .int .i64 q.degree, z.v, u.v][j]? = some v → w.cell? (p.add j) = some v

theorem LD_pcells {w : World} {p : Addr} {q : Prob} {z u : Sl} {K : Int → Int → Sl → Sl → Prop} (hc : PCells w p q z u) (hk : K q.labels q.degree z u) : LD [.int .i64, .int .i64, .sl, .sl] p w K :=
  ⟨[.int .i64 q.labels, .int .i64 q.degree, z.v, u.v], rfl, fun i v hv => hc i v hv, hk⟩
theorem LD_pdeg {w : World} {p : Addr} {q : Prob} {z u : Sl} {K : Int → Prop} (hc : PCells w p q z u) (hk : K q.degree) : LD [.int .i64] (p.add 1) w K := LD_int (hc 1 _ rfl) hk

theorem slr_ixP {D : Nat → Prop} {w : World} {s : Sl} {l : List Prob} (h : SlR D w s l) {i : Nat} (hi : i < l.length) {K : Addr → Prop} (hk : ∀ p z u, RProb w z u l[i] → PCells w p l[i] z u → K p) : IX s i 4 K :=
  h.ix rfl (by omega) (by omega) fun p cs hr hc => by
    obtain ⟨z, u, rfl, a, b, c, d⟩ := hr
    exact hk p z u ⟨a, b, c.any, d.any⟩ hc

theorem eqProblemS_ok {w : World} {a b : Sl} {l : List Prob} (h : R w a l) (h' : R w b l) :
    Calls Tryz.prog F.l_eqProblemS #[a.v, b.v] w (Ret [.at .bool] fun (r : Bool) w' => r = true ∧ Ext w w') := by
  refine C_l_eqProblemS ?_
  unfold V_l_eqProblemS
  rw [h.len, h'.len]
  refine cond_ne (fun hne => absurd rfl hne) (fun _ => ?_)
  refine ⟨IN l.length fun i w' => Ext w w', MN l.length, IN_zero (Ext.refl _), ?_⟩
  rintro _ w1 ⟨i, rfl, hi, hE1⟩
  intros
  refine cond_dec (fun hlt => ?_) (fun hge => ⟨rfl, hE1⟩)
  have hi' : i < l.length := by omega
  refine slr_ixP (h.ext hE1) hi' fun p z u hP hc => LD_pcells hc ?_
  refine slr_ixP (h'.ext hE1) hi' fun p' z' u' hP' hc' => LD_pcells hc' ?_
  refine QCALL_bool true (fun w' hw' => eqProblem_ok (hP.ext hw') (hP'.ext hw')) ?_
  intro w2 hE2
  refine cond_not (fun hf => by cases hf) (fun _ => IN_next h.le hi' (hE1.trans hE2))

/-! ### Copies of lists of problems -/

/-- What the cells of a copy hold. -/
structure PRec where
  x : Int
  y : Int
  z : Sl
  u : Sl

instance : Rep PRec where
  sz := 4
  rep _ _ cs r := cs = [.int .i64 r.x, .int .i64 r.y, r.z.v, r.u.v]
  len h := by rw [h]; rfl
  agr _ h := h
  weak _ h := h
instance : RepP PRec := ⟨by decide⟩
instance : Flat PRec where
  cells r := [.int .i64 r.x, .int .i64 r.y, r.z.v, r.u.v]
  ok _ := True
  size _ := rfl
  one r v hv := one4p r.x r.y r.z r.u v hv
  repOk _ := rfl
  ofRep h := ⟨h, trivial⟩

theorem slt_prob : SlT Tryz.prog T.t_sl_i_Problem T.t_i_Problem 4 64 (.agg #[.int .i64 0, .int .i64 0, .slice none 0 0, .slice none 0 0]) := ⟨by kernel_rfl, by kernel_rfl, rfl, by decide⟩

/-- A record that stands for a problem, its lists in blocks from a number on. -/
structure RecOf (D : Nat → Prop) (w : World) (r : PRec) (q : Prob) : Prop where
  x : r.x = q.labels
  y : r.y = q.degree
  lab : I64 q.labels
  deg : I64 q.degree
  nodes : SlR D w r.z q.nodes
  edges : SlR D w r.u q.edges

theorem RecOf.ext {D : Nat → Prop} {w w' : World} {r : PRec} {q : Prob} (h : RecOf D w r q) (hE : Ext w w') : RecOf D w' r q := ⟨h.x, h.y, h.lab, h.deg, h.nodes.ext hE, h.edges.ext hE⟩
theorem RecOf.step {D : Nat → Prop} {w w' : World} {r : PRec} {q : Prob} {g : Option Nat} (h : RecOf D w r q) (hs : Step w w' g) (hD : ∀ b, D b → g ≠ some b) : RecOf D w' r q := ⟨h.x, h.y, h.lab, h.deg, h.nodes.stepD hs hD, h.edges.stepD hs hD⟩

theorem recs_rep {w : World} {base : Nat} {e : TypeId} {s : Sl} {rs : List PRec} {l : List Prob} {D D' : Nat → Prop} (h : OwnL w base e s rs) (hlen : rs.length = l.length) (hr : ∀ j (h1 : j < rs.length) (h2 : j < l.length), RecOf D w rs[j] l[j]) (hD : ∀ b, D b → D' b) (hb : ∀ b, base ≤ b → D' b) : SlR D' w s l := by
  have h0 := h.rep (fun _ _ => trivial)
  refine ⟨by rw [h0.1, hlen], h0.2.1, fun i x hx => ?_⟩
  obtain ⟨h2, rfl⟩ := List.getElem?_eq_some_iff.1 hx
  have h1 : i < rs.length := by omega
  obtain ⟨a, cs, ha, hb', hcs, hc⟩ := h0.2.2 i rs[i] (by simp [h1])
  have hcs' : cs = [.int .i64 rs[i].x, .int .i64 rs[i].y, rs[i].z.v, rs[i].u.v] := hcs
  subst hcs'
  have hR := hr i h1 h2
  exact ⟨a, _, ha, hb _ hb', ⟨rs[i].z, rs[i].u, by rw [hR.x, hR.y], hR.lab, hR.deg, hR.nodes.weak (fun b h _ => hD b h) RepP.pos, hR.edges.weak (fun b h _ => hD b h) RepP.pos⟩, hc⟩

end Go.Proofs.YtaeledhbkdakcaaGreatDoor
end

section
/- Bounds as arguments. -/
namespace Go.Proofs.YtaeledhbkdakcaaGreatDoor
open Go.GX Go.RowKit
set_option maxRecDepth 100000

structure Bnd where
  ps : List Prob
  maps : List (List Int)
  pairs : List (List Int)

structure RBnd (w : World) (a b c : Sl) (B : Bnd) : Prop where
  ps : R w a B.ps
  maps : R w b B.maps
  pairs : R w c B.pairs

theorem RBnd.ext {w w' : World} {a b c : Sl} {B : Bnd} (h : RBnd w a b c B) (hE : Ext w w') : RBnd w' a b c B := ⟨h.ps.ext hE, h.maps.ext hE, h.pairs.ext hE⟩

structure SmallB (B : Bnd) : Prop where
  len : B.ps.length ≤ 1048576
  ps : ∀ q ∈ B.ps, SmallP q
  maps : SmallM B.maps
  pairs : SmallM B.pairs

theorem eqBound_ok {w : World} {a b c x y z : Sl} {B : Bnd} (h : RBnd w a b c B) (h' : RBnd w x y z B) :
    Calls Tryz.prog F.l_eqBound #[.agg #[a.v, b.v, c.v], .agg #[x.v, y.v, z.v]] w (Ret [.at .bool] fun (r : Bool) w' => r = true ∧ Ext w w') := by
  refine C_l_eqBound ?_
  unfold V_l_eqBound
  refine NEW_intro fun pa w1 hp1 hs1 hE1 hb1 => NEW_intro fun pb w2 hp2 hs2 hE2 hb2 => ?_
  have hE := hE1.trans hE2
  replace h := h.ext hE
  replace h' := h'.ext hE
  replace hb1 := hb1.ext hE2
  refine LD_bs0 hb1 (LD_bs0 hb2 ?_)
  refine call (eqProblemS_ok h.ps h'.ps) ?_
  rintro _ w3 ⟨rfl, hE3⟩
  replace hE := hE.ext hE3
  replace h := h.ext hE3
  replace h' := h'.ext hE3
  replace hb1 := hb1.ext hE3
  replace hb2 := hb2.ext hE3
  refine cond_f (by simp) (LD_bs1 hb1 (LD_bs1 hb2 ?_))
  refine call (eqIntSS_ok h.maps h'.maps) ?_
  rintro _ w4 ⟨rfl, hE4⟩
  replace hE := hE.ext hE4
  replace h := h.ext hE4
  replace h' := h'.ext hE4
  replace hb1 := hb1.ext hE4
  replace hb2 := hb2.ext hE4
  refine cond_f (by simp) (LD_bs2 hb1 (LD_bs2 hb2 ?_))
  refine call (eqIntSS_ok h.pairs h'.pairs) ?_
  rintro _ w5 ⟨rfl, hE5⟩
  exact cond_f (by simp) ⟨rfl, hE.trans hE5⟩

end Go.Proofs.YtaeledhbkdakcaaGreatDoor
end

section
/- Lists of problems that bounds are made of: both sides. -/
namespace Go.Proofs.YtaeledhbkdakcaaGreatDoor
open Go.GX Go.RowKit
set_option maxRecDepth 100000

def PsIn (ps : List Prob) (q : Prob) : Prop := PGood q ∧ ∀ h : 0 < ps.length, q.degree = ps[0].degree
def PsOk (ps : List Prob) : Prop := (1 ≤ ps.length ∧ ps.length ≤ 7) ∧ ∀ q ∈ ps, PsIn ps q

theorem isQ {w : World} {c d : Sl} {p : Prob} (h : RProb w c d p) : ∃ b : Bool, (b = true ↔ PGood p) ∧ ∀ w', Ext w w' → Calls Tryz.prog F.i_IsProblem #[.agg #[.int .i64 p.labels, .int .i64 p.degree, c.v, d.v]] w' (Ret [.at .bool] fun (c : Bool) w'' => c = b ∧ Ext w' w'') := by
  classical
  exact ⟨decide (PGood p), by simp, fun w' hE => call (IsProblem_ok (h.ext hE)) fun x _ ⟨h1, h2⟩ => ⟨by rw [Bool.eq_iff_iff, h1]; simp, h2⟩⟩
theorem prQ {w : World} {c d : Sl} {p : Prob} (h : RProb w c d p) : ∃ b : Bool, (b = true ↔ PGood p) ∧ ∀ w', Ext w w' → Calls Tryz.prog F.s_prGood #[.agg #[.int .i64 p.labels, .int .i64 p.degree, c.v, d.v]] w' (Ret [.at .bool] fun (c : Bool) w'' => c = b ∧ Ext w' w'') := by
  classical
  exact ⟨decide (PGood p), by simp, fun w' hE => call (prGood_ok (h.ext hE)) fun x _ ⟨h1, h2⟩ => ⟨by rw [Bool.eq_iff_iff, h1]; simp, h2⟩⟩

theorem problemsOk1_ok {w : World} {c d s : Sl} {p : Prob} {ps : List Prob} {pa : Addr} {t : TypeId} (h : RProb w c d p) (hb : Box w pa t [s.v]) (hs : R w s ps) (hl : 0 < ps.length) :
    Calls Tryz.prog F.i_problemsOk_1 #[.agg #[.int .i64 p.labels, .int .i64 p.degree, c.v, d.v], .pointer (some pa)] w (Ret [.at .bool] fun (x : Bool) w' => (x = true ↔ ¬ PsIn ps p) ∧ Ext w w') := by
  refine C_i_problemsOk_1 ?_
  unfold V_i_problemsOk_1
  refine NEW_intro fun pp w1 hp1 hs1 hE hb1 => LD_iiss hb1 ?_
  replace h := h.ext hE
  replace hb := hb.ext hE
  replace hs := hs.ext hE
  obtain ⟨b, hbg, hq⟩ := isQ h
  refine QCALL_bool b hq ?_
  refine cond_not (fun hf => fun w2 hE2 => ⟨?_, hE.trans hE2⟩) (fun ht => LD_bi1 hb1 (LD_bs hb ?_))
  · simp only [true_iff]
    exact fun hA => by rw [hbg.2 hA.1] at hf; cases hf
  · refine slr_ixP (i := 0) hs hl fun q z u hP hc => LD_pdeg hc ?_
    intro w3 hE3
    refine ⟨?_, hE.trans hE3⟩
    rw [bne_iff_ne]
    exact ⟨fun hne hA => hne (hA.2 hl), fun hA hd => hA ⟨hbg.1 ht, fun _ => hd⟩⟩

theorem problemsOk_ok {w : World} {s : Sl} {ps : List Prob} (hs : R w s ps) :
    Calls Tryz.prog F.i_problemsOk #[s.v] w (Ret [.at .bool] fun (x : Bool) w' => (x = true ↔ PsOk ps) ∧ Ext w w') := by
  refine C_i_problemsOk ?_
  unfold V_i_problemsOk
  refine NEW_intro fun pa w1 hp1 hs1 hE hb1 => LD_bs hb1 ?_
  replace hs := hs.ext hE
  rw [hs.len]
  refine call (within_ok _ _ _ _) ?_
  rintro _ _ ⟨rfl, rfl⟩
  refine cond_not (fun hf => ⟨?_, hE⟩) (fun ht => LD_bs hb1 ?_)
  · simp only [Bool.false_eq_true, false_iff]
    exact fun hA => inR_false hf ⟨by have := hA.1; omega, by have := hA.1; omega⟩
  have hr := inR_true ht
  have hl : 0 < ps.length := by omega
  refine C_slices_ContainsFunc_sl_i_Problem_i_Problem ?_
  unfold V_slices_ContainsFunc_sl_i_Problem_i_Problem
  refine C_slices_IndexFunc_sl_i_Problem_i_Problem ?_
  unfold V_slices_IndexFunc_sl_i_Problem_i_Problem
  rw [hs.len]
  refine ⟨IN ps.length fun i w' => Ext w1 w' ∧ ∀ q ∈ ps.take i, PsIn ps q, MN ps.length, IN_zero ⟨Ext.refl _, by simp⟩, ?_⟩
  rintro _ w2 ⟨i, rfl, hi, hE2, hI⟩
  intros
  refine cond_dec (fun hlt => ?_) (fun hge => ?_)
  · have hi' : i < ps.length := by omega
    refine slr_ixP (hs.ext hE2) hi' fun q z u hP hc => LD_pcells hc ?_
    refine CALLV_mk (by kernel_rfl) ?_
    refine call (problemsOk1_ok hP (hb1.ext hE2) (hs.ext hE2) hl) ?_
    rintro x w3 ⟨hx, hE3⟩
    refine cond_b (fun hb => ⟨?_, hE.trans (hE2.trans hE3)⟩) (fun hb => IN_next hs.le hi' ⟨hE2.trans hE3, fun q hq => ?_⟩)
    · have e : decide ((i : Int) ≥ 0) = true := by simp
      rw [e]
      simp only [Bool.not_true, Bool.false_eq_true, false_iff]
      exact fun hA => (hx.1 hb) (hA.2 _ (List.getElem_mem hi'))
    · rw [List.take_succ_eq_append_getElem hi'] at hq
      rcases List.mem_append.1 hq with h1 | h1
      · exact hI q h1
      · rw [List.mem_singleton.1 h1]
        exact Classical.byContradiction fun hn => by rw [hx.2 hn] at hb; cases hb
  · have : i = ps.length := by omega
    subst this
    rw [List.take_length] at hI
    refine ⟨?_, hE.trans hE2⟩
    have e : decide ((-1 : Int) ≥ 0) = false := by decide
    rw [e]
    simp only [Bool.not_false, true_iff]
    exact ⟨by omega, hI⟩

theorem boTwo_ok {w : World} {s : Sl} {ps : List Prob} (hs : R w s ps) :
    Calls Tryz.prog F.s_boTwo #[s.v] w (Ret [.at .bool] fun (x : Bool) w' => (x = true ↔ PsOk ps) ∧ Ext w w') := by
  refine C_s_boTwo ?_
  unfold V_s_boTwo
  rw [hs.len]
  refine ⟨IN ps.length fun i w' => Ext w w' ∧ ∀ q ∈ ps.take i, PsIn ps q, MN ps.length, IN_zero ⟨Ext.refl _, by simp⟩, ?_⟩
  rintro _ w1 ⟨i, rfl, hi, hE1, hI⟩
  intros
  refine cond_dec (fun hlt => ?_) (fun hge => ?_)
  · have hi' : i < ps.length := by omega
    have hl : 0 < ps.length := by omega
    refine slr_ixP (hs.ext hE1) hi' fun q z u hP hc => LD_pcells hc ?_
    refine NEW_ST (one4p _ _ _ _) rfl fun pp w3 hpp hE3 hb3 => LD_iiss hb3 ?_
    obtain ⟨b, hbg, hq⟩ := prQ (hP.ext hE3)
    have hE13 := hE1.trans hE3
    have hno : ∀ {w' : World}, Ext w3 w' → ¬ PsIn ps ps[i] → (false = true ↔ PsOk ps) ∧ Ext w w' := fun hE' hn => ⟨by simp only [Bool.false_eq_true, false_iff]; exact fun hA => hn (hA.2 _ (List.getElem_mem hi')), hE13.trans hE'⟩
    refine QCALL_bool b hq ?_
    refine cond_not (fun hf => fun w4 hE4 => hno hE4 fun hA => by rw [hbg.2 hA.1] at hf; cases hf) (fun ht => LD_bi1 hb3 ?_)
    refine slr_ixP (i := 0) (hs.ext hE13) hl fun q0 z0 u0 hP0 hc0 => LD_pdeg hc0 ?_
    intro w5 hE5
    refine cond_ne (fun hne => hno hE5 fun hA => hne (hA.2 hl)) (fun heq => IN_next hs.le hi' ⟨hE13.trans hE5, fun q hq => ?_⟩)
    rw [List.take_succ_eq_append_getElem hi'] at hq
    rcases List.mem_append.1 hq with h1 | h1
    · exact hI q h1
    · rw [List.mem_singleton.1 h1]; exact ⟨hbg.1 ht, fun _ => heq⟩
  · have : i = ps.length := by omega
    subst this
    rw [List.take_length] at hI
    refine call (l1In_ok _ _ _ _) ?_
    rintro _ _ ⟨rfl, rfl⟩
    refine ⟨⟨fun ht => ⟨?_, hI⟩, fun hA => ?_⟩, hE1⟩
    · have := inR_true ht; omega
    · cases hb : inR (ps.length : Int) 1 7 with
      | true => rfl
      | false => exact absurd ⟨by have := hA.1; omega, by have := hA.1; omega⟩ (inR_false hb)

end Go.Proofs.YtaeledhbkdakcaaGreatDoor
end

section
/- Whether a bound is right: both sides. -/
namespace Go.Proofs.YtaeledhbkdakcaaGreatDoor
open Go.GX Go.RowKit
set_option maxRecDepth 100000

theorem QCALL_prop {f : FuncId} {args : Array Value} {w : World} {K : Bool → Prop} {A : Prop} (h : ∀ w', Ext w w' → Calls Tryz.prog f args w' (Ret [.at .bool] fun (x : Bool) w'' => (x = true ↔ A) ∧ Ext w' w'')) (hk : ∀ b, (b = true ↔ A) → K b) : QCALL Tryz.prog f args w [.at .bool] K := by
  classical
  exact QCALL_bool (decide A) (fun w' hE => call (h w' hE) fun x _ ⟨h1, h2⟩ => ⟨by rw [Bool.eq_iff_iff, h1]; simp, h2⟩) (hk _ (by simp))

def StOk (p q : Prob) (f : List Int) : Prop := rdGood p ∧ MapOk (roundP p) q f
/-- What is asked of a bound. -/
structure Right (B : Bnd) : Prop where
  len : B.maps.length + 1 = B.ps.length
  step : ∀ i (h1 : i < B.maps.length) (h2 : i + 1 < B.ps.length), StOk (B.ps[i]'(by omega)) B.ps[i + 1] B.maps[i]
  zero : ∀ i (h : i < B.ps.length), i + 1 = B.ps.length → ZOk B.ps[i] B.pairs

theorem boStep_ok {w : World} {c d c' d' s : Sl} {p q : Prob} {f : List Int} (h : RProb w c d p) (h' : RProb w c' d' q) (hq : PGood q) (hf : R w s f) :
    Calls Tryz.prog F.s_boStep #[.agg #[.int .i64 p.labels, .int .i64 p.degree, c.v, d.v], .agg #[.int .i64 q.labels, .int .i64 q.degree, c'.v, d'.v], s.v] w (Ret [.at .bool] fun (x : Bool) w' => (x = true ↔ StOk p q f) ∧ Ext w w') := by
  refine C_s_boStep ?_
  unfold V_s_boStep
  refine NEW_intro fun pp w1 hp1 hs1 hE1 hb1 => NEW_intro fun pq w2 hp2 hs2 hE2 hb2 => LD_iiss (hb1.ext hE2) ?_
  have hE := hE1.trans hE2
  replace h := h.ext hE
  replace h' := h'.ext hE
  replace hf := hf.ext hE
  refine call (sEliminateRound_ok h) ?_
  rintro x y z u a1 a2 b w3 ⟨hE3, hr⟩
  replace hE := hE.ext hE3
  replace h' := h'.ext hE3
  replace hf := hf.ext hE3
  replace hb2 := hb2.ext hE3
  refine NEW_ST (one4p _ _ _ _) rfl fun pr w5 hp5 hE5 hb5 => ?_
  replace hE := hE.ext hE5
  replace h' := h'.ext hE5
  replace hf := hf.ext hE5
  replace hb2 := hb2.ext hE5
  rcases hr with ⟨rfl, hgd, rfl, rfl, hP⟩ | ⟨rfl, hno⟩
  · replace hP := hP.ext hE5
    refine cond_t rfl (LD_iiss hb5 (LD_iiss hb2 ?_))
    refine call (reMap_ok (p := roundP p) (q := q) hP.prob h' (made_round hgd.1 hgd.2) hq hf) ?_
    rintro v w6 ⟨hv, hE6⟩
    exact ⟨hv.trans ⟨fun hm => ⟨hgd, hm⟩, fun hA => hA.2⟩, hE.trans hE6⟩
  · exact cond_f rfl ⟨by simp only [Bool.false_eq_true, false_iff]; exact fun hA => hno hA.1, hE⟩

theorem isRightBound_ok {w : World} {a b c : Sl} {B : Bnd} (h : RBnd w a b c B) (hs : SmallB B) (hps : PsOk B.ps) :
    Calls Tryz.prog F.i_isRightBound #[.agg #[a.v, b.v, c.v]] w (Ret [.at .bool] fun (x : Bool) w' => (x = true ↔ Right B) ∧ Ext w w') := by
  refine C_i_isRightBound ?_
  unfold V_i_isRightBound
  refine NEW_intro fun pb w1 hp1 hs1 hE hb => LD_bs0 hb (LD_bs1 hb ?_)
  replace h := h.ext hE
  have hl := hps.1
  rw [h.ps.len, h.maps.len, wrap_of (by omega) (by omega)]
  have hno : ∀ {w' : World}, Ext w w' → ¬ Right B → (false = true ↔ Right B) ∧ Ext w w' := fun h1 h2 => ⟨by simp [h2], h1⟩
  refine cond_ne (fun hne => hno hE fun hR => hne (by have := hR.len; show (B.maps.length : Int) = (B.ps.length : Int) - 1; omega)) (fun heq => LD_bs1 hb ?_)
  have hlen : B.maps.length + 1 = B.ps.length := by have : (B.maps.length : Int) = (B.ps.length : Int) - 1 := heq; omega
  rw [h.maps.len]
  refine ⟨IN B.maps.length fun i w' => Ext w1 w' ∧ ∀ j, j < i → ∀ (h1 : j < B.maps.length) (h2 : j + 1 < B.ps.length), StOk (B.ps[j]'(by omega)) B.ps[j + 1] B.maps[j], MN B.maps.length, IN_zero ⟨Ext.refl _, fun j hj => absurd hj (by omega)⟩, ?_⟩
  rintro _ w2 ⟨i, rfl, hi, hE2, hI⟩
  intros
  replace hE := hE.ext hE2
  replace h := h.ext hE2
  replace hb := hb.ext hE2
  refine cond_dec (fun hlt => ?_) (fun hge => ?_)
  · have hi' : i < B.maps.length := by omega
    have hip : i < B.ps.length := by omega
    have hiq : i + 1 < B.ps.length := by omega
    have hg := hps.2 _ (List.getElem_mem hip)
    have hg2 := hps.2 _ (List.getElem_mem hiq)
    refine h.maps.ixL hi' fun q0 row hrow hc => LD_sl hc (LD_bs0 hb ?_)
    refine slr_ixP h.ps hip fun q1 z1 u1 hP1 hc1 => LD_pcells hc1 ?_
    refine call (eliminate_ok hP1 (hs.ps _ (List.getElem_mem hip)) hg.1) ?_
    rintro x y z u a1 a2 bb w3 ⟨hE3, hr⟩
    refine NEW_ST (one4p _ _ _ _) rfl fun pq w5 hp5 hE5 hb5 => ?_
    have hE35 := hE3.trans hE5
    rcases hr with ⟨rfl, hfw, rfl, rfl, hP⟩ | ⟨rfl, hnf⟩
    · replace hP := hP.ext hE5
      refine cond_not (fun hf => by cases hf) (fun _ => LD_iiss hb5 (LD_bs0 (hb.ext hE35) ?_))
      have e1 : IntKind.i64.wrap ((i : Int) + 1) = ((i + 1 : Nat) : Int) := by rw [wrap_of (by omega) (by omega)]; omega
      rw [e1]
      refine slr_ixP (h.ps.ext hE35) hiq fun q2 z2 u2 hP2 hc2 => LD_pcells hc2 ?_
      refine QCALL_prop (A := MapOk (roundP B.ps[i]) B.ps[i + 1] B.maps[i]) (fun w' hw' => isLabelMap_ok (p := roundP B.ps[i]) (q := B.ps[i + 1]) (hP.prob.ext hw') (hP2.ext hw') (made_round hg.1 hfw) hg2.1 (small_round hg.1 hfw) (hs.ps _ (List.getElem_mem hiq)) ((hrow.any.ext hE35).ext hw')) fun v hv => ?_
      intro w7 hE7
      refine cond_not (fun hf => hno (hE.trans (hE35.trans hE7)) fun hR => by rw [hv.2 (hR.step i hi' hiq).2] at hf; cases hf) (fun ht => ?_)
      refine ⟨⟨i + 1, rfl, hi', hE2.trans (hE35.trans hE7), fun j hj h1 h2 => ?_⟩, by unfold MN; omega⟩
      by_cases hji : j = i
      · subst hji; exact ⟨⟨hg.1, hfw⟩, hv.1 ht⟩
      · exact hI j (by omega) h1 h2
    · refine cond_not (fun _ => fun w6 hE6 => hno (hE.trans (hE35.trans hE6)) fun hR => hnf (hR.step i hi' hiq).1.2) (fun ht => by cases ht)
  · have : i = B.maps.length := by omega
    subst this
    have hlast : B.ps.length - 1 < B.ps.length := by omega
    have e1 : (B.ps.length : Int) - 1 = ((B.ps.length - 1 : Nat) : Int) := by omega
    refine LD_bs0 hb ?_
    rw [e1]
    refine slr_ixP h.ps hlast fun q1 z1 u1 hP1 hc1 => LD_pcells hc1 (LD_bs2 hb ?_)
    refine QCALL_prop (fun w' hw' => isZeroRefusal_ok (hP1.ext hw') (hps.2 _ (List.getElem_mem hlast)).1 (hs.ps _ (List.getElem_mem hlast)) (h.pairs.ext hw')) fun v hv => ?_
    intro w8 hE8
    refine ⟨?_, hE.trans hE8⟩
    refine ⟨fun ht => ⟨hlen, fun j h1 h2 => hI j h1 h1 h2, fun j hj hjl => ?_⟩, fun hR => hv.2 (hR.zero _ hlast (by omega))⟩
    have hjj : j = B.ps.length - 1 := by omega
    subst hjj
    exact hv.1 ht

end Go.Proofs.YtaeledhbkdakcaaGreatDoor
end

section
/- Whether a bound is right: the reference; CheckBound and BoundOf, both sides. -/
namespace Go.Proofs.YtaeledhbkdakcaaGreatDoor
open Go.GX Go.RowKit
set_option maxRecDepth 100000

theorem boRight_ok {w : World} {a b c : Sl} {B : Bnd} (h : RBnd w a b c B) (hps : PsOk B.ps) :
    Calls Tryz.prog F.s_boRight #[.agg #[a.v, b.v, c.v]] w (Ret [.at .bool] fun (x : Bool) w' => (x = true ↔ Right B) ∧ Ext w w') := by
  refine C_s_boRight ?_
  unfold V_s_boRight
  refine NEW_intro fun pb w1 hp1 hs1 hE hb => LD_bs0 hb (LD_bs1 hb ?_)
  replace h := h.ext hE
  have hl := hps.1
  rw [h.ps.len, h.maps.len, wrap_of (by omega) (by omega)]
  have hno : ∀ {w' : World}, Ext w w' → ¬ Right B → (false = true ↔ Right B) ∧ Ext w w' := fun h1 h2 => ⟨by simp [h2], h1⟩
  refine cond_ne (fun hne => fun w2 hE2 => hno (hE.trans hE2) fun hR => hne (by have := hR.len; show (B.maps.length : Int) = (B.ps.length : Int) - 1; omega)) (fun heq => LD_bs0 hb ?_)
  have hlen : B.maps.length + 1 = B.ps.length := by have : (B.maps.length : Int) = (B.ps.length : Int) - 1 := heq; omega
  have hlast : B.ps.length - 1 < B.ps.length := by omega
  have e0 : (B.ps.length : Int) - 1 = ((B.ps.length - 1 : Nat) : Int) := by omega
  rw [e0]
  refine slr_ixP h.ps hlast fun q1 z1 u1 hP1 hc1 => LD_pcells hc1 (LD_bs2 hb ?_)
  refine QCALL_prop (fun w' hw' => boZero_ok (hP1.ext hw') (hps.2 _ (List.getElem_mem hlast)).1 (h.pairs.ext hw')) fun v hv => ?_
  intro w3 hE3
  replace hE := hE.ext hE3
  replace h := h.ext hE3
  replace hb := hb.ext hE3
  refine cond_not (fun hf => hno hE fun hR => by rw [hv.2 (hR.zero _ hlast (by omega))] at hf; cases hf) (fun ht0 => ?_)
  unfold V_s_boRight_k1
  refine LD_bs1 hb ?_
  rw [h.maps.len]
  refine ⟨IN B.maps.length fun i w' => Ext w3 w' ∧ ∀ j, j < i → ∀ (h1 : j < B.maps.length) (h2 : j + 1 < B.ps.length), StOk (B.ps[j]'(by omega)) B.ps[j + 1] B.maps[j], MN B.maps.length, IN_zero ⟨Ext.refl _, fun j hj => absurd hj (by omega)⟩, ?_⟩
  rintro _ w5 ⟨i, rfl, hi, hE5, hI⟩
  intros
  replace hE := hE.ext hE5
  replace h := h.ext hE5
  replace hb := hb.ext hE5
  refine cond_dec (fun hlt => ?_) (fun hge => ?_)
  · have hi' : i < B.maps.length := by omega
    have hip : i < B.ps.length := by omega
    have hiq : i + 1 < B.ps.length := by omega
    refine h.maps.ixL hi' fun q0 row hrow hc => LD_sl hc (LD_bs0 hb ?_)
    refine slr_ixP h.ps hip fun q1 z1 u1 hP1 hc1 => LD_pcells hc1 (LD_bs0 hb ?_)
    have e1 : IntKind.i64.wrap ((i : Int) + 1) = ((i + 1 : Nat) : Int) := by rw [wrap_of (by omega) (by omega)]; omega
    rw [e1]
    refine slr_ixP h.ps hiq fun q2 z2 u2 hP2 hc2 => LD_pcells hc2 ?_
    refine QCALL_prop (fun w' hw' => boStep_ok (hP1.ext hw') (hP2.ext hw') (hps.2 _ (List.getElem_mem hiq)).1 (hrow.any.ext hw')) fun v2 hv2 => ?_
    intro w6 hE6
    refine cond_not (fun hf => hno (hE.trans hE6) fun hR => by rw [hv2.2 (hR.step i hi' hiq)] at hf; cases hf) (fun ht => ?_)
    refine ⟨⟨i + 1, rfl, hi', hE5.trans hE6, fun j hj h1 h2 => ?_⟩, by unfold MN; omega⟩
    by_cases hji : j = i
    · subst hji; exact hv2.1 ht
    · exact hI j (by omega) h1 h2
  · have : i = B.maps.length := by omega
    subst this
    refine ⟨?_, hE⟩
    simp only [true_iff]
    refine ⟨hlen, fun j h1 h2 => hI j h1 h1 h2, fun j hj hjl => ?_⟩
    have hjj : j = B.ps.length - 1 := by omega
    subst hjj
    exact hv.1 ht0

def BdAns (B : Bnd) (x ok : Bool) : Prop := (ok = true ↔ PsOk B.ps) ∧ (x = true ↔ PsOk B.ps ∧ Right B)
theorem BdAns.eq {B : Bnd} {x ok y ok' : Bool} (h : BdAns B x ok) (h' : BdAns B y ok') : x = y ∧ ok = ok' := ⟨by rw [Bool.eq_iff_iff, h.2, h'.2], by rw [Bool.eq_iff_iff, h.1, h'.1]⟩

theorem CheckBound_ok {w : World} {a b c : Sl} {B : Bnd} (h : RBnd w a b c B) (hs : SmallB B) :
    Calls Tryz.prog F.i_CheckBound #[.agg #[a.v, b.v, c.v]] w (Ret [.at .bool, .at .bool] fun (x : Bool) (ok : Bool) w' => BdAns B x ok ∧ Ext w w') := by
  refine C_i_CheckBound ?_
  unfold V_i_CheckBound
  refine NEW_intro fun pb w1 hp1 hs1 hE hb => LD_bs0 hb ?_
  replace h := h.ext hE
  refine call (problemsOk_ok h.ps) ?_
  rintro x w2 ⟨hx, hE2⟩
  replace hE := hE.ext hE2
  replace h := h.ext hE2
  replace hb := hb.ext hE2
  refine cond_not (fun hf => ⟨⟨?_, ?_⟩, hE⟩) (fun ht => LD_box3 hb ?_)
  · simp only [Bool.false_eq_true, false_iff]; exact fun hA => by rw [hx.2 hA] at hf; cases hf
  · simp only [Bool.false_eq_true, false_iff]; exact fun hA => by rw [hx.2 hA.1] at hf; cases hf
  · have hp := hx.1 ht
    refine call (isRightBound_ok h hs hp) ?_
    rintro y w3 ⟨hy, hE3⟩
    exact ⟨⟨⟨fun _ => hp, fun _ => rfl⟩, hy.trans ⟨fun hr => ⟨hp, hr⟩, fun hA => hA.2⟩⟩, hE.trans hE3⟩


def BoAns (B : Bnd) (n : Int) (ok : Bool) : Prop := AnsG (PsOk B.ps ∧ Right B) (B.maps.length : Int) 0 n ok

theorem BoundOf_ok {w : World} {a b c : Sl} {B : Bnd} (h : RBnd w a b c B) (hs : SmallB B) :
    Calls Tryz.prog F.i_BoundOf #[.agg #[a.v, b.v, c.v]] w (Ret [.at (.int .i64), .at .bool] fun (n : Int) (ok : Bool) w' => BoAns B n ok ∧ Ext w w') := by
  refine C_i_BoundOf ?_
  unfold V_i_BoundOf
  refine NEW_intro fun pb w1 hp1 hs1 hE hb => LD_box3 hb ?_
  replace h := h.ext hE
  refine call (CheckBound_ok h hs) ?_
  rintro x ok w2 ⟨hx, hE2⟩
  replace hE := hE.ext hE2
  replace h := h.ext hE2
  replace hb := hb.ext hE2
  refine cond_not (fun hf => ⟨.no fun hA => (by rw [hx.2.2 hA] at hf; cases hf), hE⟩) (fun ht => ?_)
  have hA := hx.2.1 ht
  refine cond_not (fun hf => ⟨.no fun _ => (by rw [hx.1.2 hA.1] at hf; cases hf), hE⟩) (fun _ => LD_bs1 hb ?_)
  rw [h.maps.len]
  exact ⟨.yes hA, hE⟩

end Go.Proofs.YtaeledhbkdakcaaGreatDoor
end

section
/- Texts of problems and of bounds: both sides. -/
namespace Go.Proofs.YtaeledhbkdakcaaGreatDoor
open Go.GX Go.RowKit
open Go.Lib (decDigits)
set_option maxRecDepth 100000

def wProblem : List UInt8 := [112, 114, 111, 98, 108, 101, 109]
def wNode : List UInt8 := [110, 111, 100, 101]
def wEdge : List UInt8 := [101, 100, 103, 101]
def wMap : List UInt8 := [109, 97, 112]
def wNot : List UInt8 := [110, 111, 116]
def prLinesS (q : Prob) : List (List UInt8) := lineS wProblem [q.labels, q.degree] :: (q.nodes.map (lineS wNode) ++ q.edges.map (lineS wEdge))
def prTextS (q : Prob) : List UInt8 := linesS (prLinesS q)
def boTextS (B : Bnd) : List UInt8 := B.ps.flatMap prTextS ++ (linesS (B.maps.map (lineS wMap)) ++ linesS (B.pairs.map (lineS wNot)))

theorem PGood.head {q : Prob} (h : PGood q) : Six [q.labels, q.degree] := by
  intro x hx
  have h1 := h.lab
  have h2 := h.deg
  simp only [List.mem_cons, List.not_mem_nil, or_false] at hx
  rcases hx with rfl | rfl <;> omega
theorem ConfOk.few {L : List (List Int)} {s n : Int} (h : ConfOk L s n) (hs : s ≤ 10) (hn : n ≤ 1000) (hl : L.length ≤ 10000000) : Few L :=
  ⟨hl, fun x hx => by
    obtain ⟨i, hi, rfl⟩ := List.mem_iff_getElem.1 hx
    obtain ⟨h1, _, h3⟩ := h.row i hi
    exact ⟨by omega, fun y hy => by have := h3 y hy; omega⟩⟩
theorem PGood.fewN {q : Prob} (h : PGood q) (hs : SmallP q) : Few q.nodes := h.nodes.few (by have := h.deg; omega) (by have := h.lab; omega) (by have := hs.1.1; omega)
theorem PGood.fewE {q : Prob} (h : PGood q) (hs : SmallP q) : Few q.edges := h.edges.few (by omega) (by have := h.lab; omega) (by have := hs.2.1; omega)

theorem prLines_len {q : Prob} (h : PGood q) (hn : Few q.nodes) (he : Few q.edges) : ∀ x ∈ prLinesS q, x.length + 1 ≤ 100 := by
  intro x hx
  rcases List.mem_cons.1 hx with rfl | hx
  · have := lineS_len wProblem (l := [q.labels, q.degree]) fun z hz => (h.head z hz).2
    have e : wProblem.length = 7 := rfl
    simp only [List.length_cons, List.length_nil] at this; omega
  · rcases List.mem_append.1 hx with hx | hx
    · exact few_len hn (by decide) x hx
    · exact few_len he (by decide) x hx
theorem prText_len {q : Prob} (h : PGood q) (hn : Few q.nodes) (he : Few q.edges) : (prTextS q).length ≤ 3000000000 := by
  have h1 := linesS_len (prLines_len h hn he)
  have h2 : (prLinesS q).length = 1 + (q.nodes.length + q.edges.length) := by simp [prLinesS]; omega
  have h3 := hn.1
  have h4 := he.1
  unfold prTextS
  omega

theorem problemText_ok {w : World} (g : GP w) {c d : Sl} {q : Prob} (h : RProb w c d q) (hg : PGood q) (hn : Few q.nodes) (he : Few q.edges) :
    Calls Tryz.prog F.i_problemText #[.agg #[.int .i64 q.labels, .int .i64 q.degree, c.v, d.v]] w (Ret [.at .str] fun (r : ByteArray) w' => r = mkS (prTextS q) ∧ Ext w w') := by
  refine C_i_problemText ?_
  unfold V_i_problemText
  refine NEW_intro fun pp w1 hp1 hs1 hE1 hb1 => LD_bi0 hb1 (LD_bi1 hb1 ?_)
  refine RUN_lits slt_int [q.labels, q.degree] (by simp) (by simp) rfl (by rfl) fun y w2 hE2 hO2 => ?_
  have hI : ∀ x ∈ [q.labels, q.degree], I64 x := fun x hx => by have := hg.head x hx; show I64 _; unfold I64; omega
  have hE02 := hE1.trans hE2
  rw [mk_lit [112, 114, 111, 98, 108, 101, 109], mk_lit [10], mk_lit [110, 111, 100, 101], mk_lit [101, 100, 103, 101]]
  refine call (wordsLine_ok (wd := wProblem) (g.ext hE02) (hO2.rep hI).any hg.head (by simp) (by decide)) ?_
  rintro _ w3 ⟨rfl, hE3⟩
  refine RUN_lit1 (α := ByteArray) slt_str (mkS (lineS wProblem [q.labels, q.degree])) rfl (by decide) fun z w4 hE4 hO4 => ?_
  have hE24 := hE3.trans hE4
  have hE04 := hE02.trans hE24
  have hz3 := (hE02.trans hE3).size_le
  have hz4 := hE4.size_le
  refine LD_bs2 (hb1.ext (hE2.trans hE24)) ?_
  have hE14 := hE2.trans hE24
  have hz2 := hE2.size_le
  have hz3' := hE3.size_le
  have h1 := h.ext hE1
  repeat' (with_reducible refine dropV2 ?_)
  refine appLoop (w0 := w1) (g.ext hE1) (done := [lineS wProblem [q.labels, q.degree]]) (wd := wNode) h1.nodes hn (by decide) hE14 hO4 ⟨by omega, hz4⟩ (by simp) fun out w5 hE5 hO5 hbw => ?_
  refine LD_bs3 (hb1.ext hE5) ?_
  repeat' (with_reducible refine dropV2 ?_)
  refine appLoop (w0 := w1) (g.ext hE1) (wd := wEdge) h1.edges he (by decide) hE5 hO5 ⟨by omega, hbw⟩ (by have := hn.1; simp only [List.length_append, List.length_map, List.length_cons, List.length_nil]; omega) fun out2 w6 hE6 hO6 hbw6 => ?_
  have hall : [lineS wProblem [q.labels, q.degree]] ++ q.nodes.map (lineS wNode) ++ q.edges.map (lineS wEdge) = prLinesS q := by simp [prLinesS]
  rw [hall] at hO6
  have hlen := prLines_len hg hn he
  have hne : prLinesS q ≠ [] := by simp [prLinesS]
  have hend := intercalate_end 10 hne
  have htl := prText_len hg hn he
  have hcl : (prLinesS q).length ≤ 30000000 := by
    have h2 : (prLinesS q).length = 1 + (q.nodes.length + q.edges.length) := by simp [prLinesS]; omega
    have := hn.1
    have := he.1
    omega
  have htl2 : ([10].intercalate (prLinesS q)).length + 1 = (prTextS q).length := by
    have := congrArg List.length hend
    simpa [prTextS, linesS] using this
  refine call (Join_ok (sep := [10]) hO6 (by omega) (by omega)) ?_
  rintro _ w9 ⟨rfl, hE9⟩
  refine ⟨by rw [mkS_size, mkS_size]; simp; omega, ?_, (hE1.trans hE6).trans hE9⟩
  rw [mkS_app]
  exact congrArg mkS hend

theorem prText_ok {w : World} {c d : Sl} {q : Prob} (h : RProb w c d q) (hg : PGood q) (hn : Few q.nodes) (he : Few q.edges) :
    Calls Tryz.prog F.s_prText #[.agg #[.int .i64 q.labels, .int .i64 q.degree, c.v, d.v]] w (Ret [.at .str] fun (r : ByteArray) w' => r = mkS (prTextS q) ∧ Ext w w') := by
  refine C_s_prText ?_
  unfold V_s_prText
  refine NEW_intro fun pp w1 hp1 hs1 hE1 hb1 => LD_bi0 hb1 (LD_bi1 hb1 ?_)
  refine RUN_lits slt_int [q.labels, q.degree] (by simp) (by simp) rfl (by rfl) fun y w2 hE2 hO2 => ?_
  have hI : ∀ x ∈ [q.labels, q.degree], I64 x := fun x hx => by have := hg.head x hx; show I64 _; unfold I64; omega
  have hE02 := hE1.trans hE2
  rw [mk_lit [112, 114, 111, 98, 108, 101, 109], mk_lit [10], mk_lit [110, 111, 100, 101], mk_lit [101, 100, 103, 101]]
  refine call (maLine_ok (wd := wProblem) (hO2.rep hI).any hg.head (by simp) (by decide)) ?_
  rintro _ w3 ⟨rfl, hE3⟩
  have h1 := h.ext hE1
  have hE13 := hE2.trans hE3
  have hlen := prLines_len hg hn he
  have h100 := hlen _ (List.mem_cons_self ..)
  refine ⟨by rw [mkS_size, mkS_size]; simp only [List.length_cons, List.length_nil]; omega, LD_bs2 (hb1.ext hE13) ?_⟩
  rw [mkS_app]
  repeat' (with_reducible refine dropV2 ?_)
  refine catLoop (w0 := w1) (wd := wNode) h1.nodes hn (by decide) hE13 (by simp only [List.length_append, List.length_cons, List.length_nil]; omega) fun w5 hE5 => ?_
  refine LD_bs3 (hb1.ext hE5) ?_
  have hnl := linesS_len (few_len hn (w := wNode) (by decide))
  rw [List.length_map] at hnl
  have hn1 := hn.1
  repeat' (with_reducible refine dropV2 ?_)
  refine catLoop (w0 := w1) (wd := wEdge) h1.edges he (by decide) hE5 (by simp only [List.length_append, List.length_cons, List.length_nil]; omega) fun w6 hE6 => ?_
  refine ⟨?_, hE1.trans hE6⟩
  have : lineS wProblem [q.labels, q.degree] ++ [10] ++ linesS (q.nodes.map (lineS wNode)) ++ linesS (q.edges.map (lineS wEdge)) = prTextS q := by simp [prTextS, prLinesS, linesS]
  rw [this]

end Go.Proofs.YtaeledhbkdakcaaGreatDoor
end

section
/- Texts of bounds: both sides. -/
namespace Go.Proofs.YtaeledhbkdakcaaGreatDoor
open Go.GX Go.RowKit
open Go.Lib (decDigits)
set_option maxRecDepth 100000

/-- Rows of numbers that are not below zero. -/
def Pos (L : List (List Int)) : Prop := ∀ r ∈ L, ∀ x ∈ r, 0 ≤ x

/-- What a right bound's numbers are. -/
structure BFew (B : Bnd) : Prop where
  len : B.ps.length ≤ 7
  good : ∀ q ∈ B.ps, PGood q ∧ Few q.nodes ∧ Few q.edges
  maps : Few B.maps ∧ Pos B.maps
  pairs : Few B.pairs ∧ Pos B.pairs

theorem bound_few {B : Bnd} (hp : PsOk B.ps) (hr : Right B) (hs : ∀ q ∈ B.ps, SmallP q) : BFew B := by
  have h7 := hp.1.2
  have hlen := hr.len
  refine ⟨h7, fun q hq => ⟨(hp.2 q hq).1, (hp.2 q hq).1.fewN (hs q hq), (hp.2 q hq).1.fewE (hs q hq)⟩, ?_, ?_⟩
  · have key : ∀ r ∈ B.maps, (r.length ≤ 10 ∧ Six r) ∧ ∀ x ∈ r, 0 ≤ x := by
      intro r hr2
      obtain ⟨i, hi, rfl⟩ := List.mem_iff_getElem.1 hr2
      have h1 : i + 1 < B.ps.length := by omega
      obtain ⟨h2, h3⟩ := hr.step i hi h1
      have h4 := (made_round h2.1 h2.2).lab
      have h5 := h3.len
      have h6 := (hp.2 _ (List.getElem_mem h1)).1.lab
      have h8 := h3.labs
      exact ⟨⟨by omega, fun x hx => by have := h8 x hx; omega⟩, fun x hx => (h8 x hx).1⟩
    exact ⟨⟨by omega, fun r hr2 => (key r hr2).1⟩, fun r hr2 => (key r hr2).2⟩
  · have h0 : 0 < B.ps.length := by have := hp.1.1; omega
    have hi : B.ps.length - 1 < B.ps.length := by omega
    obtain ⟨z1, z2⟩ := hr.zero (B.ps.length - 1) hi (by omega)
    have hg := (hp.2 _ (List.getElem_mem hi)).1
    have hn := hg.fewN (hs _ (List.getElem_mem hi))
    have key : ∀ r ∈ B.pairs, (r.length ≤ 10 ∧ Six r) ∧ ∀ x ∈ r, 0 ≤ x := by
      intro r hr2
      obtain ⟨i, hi2, rfl⟩ := List.mem_iff_getElem.1 hr2
      have hin : i < (B.ps[B.ps.length - 1]).nodes.length := by omega
      have h2 := z2 i hin
      have e1 : B.pairs.getD i [] = B.pairs[i] := by rw [List.getD_eq_getElem?_getD, List.getElem?_eq_getElem hi2]; rfl
      have e2 : (B.ps[B.ps.length - 1]).nodes.getD i [] = (B.ps[B.ps.length - 1]).nodes[i] := by rw [List.getD_eq_getElem?_getD, List.getElem?_eq_getElem hin]; rfl
      rw [e1, e2] at h2
      unfold zTwo at h2
      simp only [Bool.and_eq_true, decide_eq_true_eq] at h2
      obtain ⟨h3, h4, h5, _⟩ := h2
      have hrow := (hg.nodes.row i hin).2.2
      have hl := hg.lab
      have a1 := hrow _ (List.contains_iff_mem.1 h4)
      have a2 := hrow _ (List.contains_iff_mem.1 h5)
      obtain ⟨x, y, hxy⟩ : ∃ x y, B.pairs[i] = [x, y] := by
        generalize B.pairs[i] = r at h3
        match r, h3 with
        | [x, y], _ => exact ⟨x, y, rfl⟩
      rw [hxy] at a1 a2 ⊢
      have a1' : 0 ≤ x ∧ x ≤ _ := a1
      have a2' : 0 ≤ y ∧ y ≤ _ := a2
      refine ⟨⟨by simp, ?_⟩, ?_⟩
      · intro z hz
        simp only [List.mem_cons, List.not_mem_nil, or_false] at hz
        rcases hz with rfl | rfl <;> omega
      · intro z hz
        simp only [List.mem_cons, List.not_mem_nil, or_false] at hz
        rcases hz with rfl | rfl <;> omega
    exact ⟨⟨by rw [z1]; exact hn.1, fun r hr2 => (key r hr2).1⟩, fun r hr2 => (key r hr2).2⟩

theorem psText_len {l : List Prob} (h : ∀ q ∈ l, PGood q ∧ Few q.nodes ∧ Few q.edges) : (l.flatMap prTextS).length ≤ 3000000000 * l.length := by
  induction l with
  | nil => simp
  | cons q l ih =>
    have h1 := h q (by simp)
    have h2 := prText_len h1.1 h1.2.1 h1.2.2
    have h3 := ih fun x hx => h x (by simp [hx])
    simp only [List.flatMap_cons, List.length_append, List.length_cons]
    omega

/-! ### The program -/

theorem bldLoop {w0 w : World} (g : GP w0) {p : Addr} {t : Sl} {L : List (List Int)} {wd done : List UInt8} (hL : R w0 t L) (hF : Few L) (hwd : wd.length ≤ 20) (hE : Ext w0 w) (hB : Bld w w0.heap.size p done) (hd : done.length ≤ 100000000000)
    {K : World → Prop} (hk : ∀ w', Ext w0 w' → Bld w' w0.heap.size p (done ++ linesS (L.map (lineS wd))) → K w') :
    ∃ (I : Int → World → Prop) (m : Int → World → Nat), I 0 w ∧ ∀ (x : Int) w5, I x w5 →
      cond (decide ((x : Int) < t.len)) (
      IX t x 1 fun (pa : Addr) =>
      LD [.sl] pa w5 fun (y : Sl) =>
      Calls Tryz.prog F.i_wordsLine #[.string (mkS wd), y.v] w5 (Ret [.at .str] fun (z : ByteArray) w6 =>
      z.size + (mkS [10]).size ≤ 9223372036854775807 ∧ (
      Calls Tryz.prog F.ptr_strings_Builder_WriteString #[.pointer (some p), .string (z ++ mkS [10])] w6 (Ret [.at (.int .i64), .at .val] fun (_ : Int) (_ : Value) w7 =>
      I (IntKind.i64.wrap (x + 1)) w7 ∧ m (IntKind.i64.wrap (x + 1)) w7 < m x w5)))) (
      K w5) := by
  rw [hL.len]
  refine ⟨IN L.length fun i w' => Ext w0 w' ∧ Bld w' w0.heap.size p (done ++ linesS ((L.take i).map (lineS wd))), MN L.length, IN_zero ⟨hE, by simpa [linesS] using hB⟩, ?_⟩
  rintro _ w5 ⟨i, rfl, hi, hE5, hB5⟩
  refine cond_dec (fun hlt => ?_) (fun hge => ?_)
  · have hi' : i < L.length := by omega
    have hrow := hF.2 L[i] (List.getElem_mem hi')
    have hF1 := hF.1
    refine (hL.ext hE5).ixL hi' fun q t ht hc => LD_sl hc ?_
    refine call (wordsLine_ok (wd := wd) (g.ext hE5) ht.any hrow.2 (by omega) (by omega)) ?_
    rintro _ w6 ⟨rfl, hE6⟩
    have hll := few_len hF hwd
    have hlb := linesS_len (n := 100) (L := (L.take i).map (lineS wd)) fun x hx => hll x (by
      obtain ⟨y, hy, rfl⟩ := List.mem_map.1 hx
      exact List.mem_map_of_mem (List.mem_of_mem_take hy))
    rw [List.length_map, List.length_take, Nat.min_eq_left hi] at hlb
    have hl1 := hll (lineS wd L[i]) (List.mem_map_of_mem (List.getElem_mem hi'))
    refine ⟨by rw [mkS_size, mkS_size]; simp only [List.length_cons, List.length_nil]; omega, ?_⟩
    rw [mkS_app]
    have hE06 := hE5.trans hE6
    have hz := hE06.size_le
    refine call (WriteString_ok (hB5.ext hE6) hz (by simp only [List.length_append, List.length_cons, List.length_nil]; omega)) ?_
    rintro _ _ w7 ⟨hBel, hB7⟩
    refine IN_next (by omega) hi' ⟨Below.trans hE06 hBel, ?_⟩
    rw [List.take_succ_eq_append_getElem hi', List.map_append, List.map_singleton, linesS_snoc, ← List.append_assoc]
    exact hB7
  · have : i = L.length := by omega
    subst this
    rw [List.take_length] at hB5
    exact hk _ hE5 hB5

/-- What a bound's text answers. -/
structure BtAns (B : Bnd) (r : ByteArray) (ok : Bool) : Prop where
  asked : ok = true ↔ PsOk B.ps ∧ Right B
  yes : ok = true → r = mkS (boTextS B)
  no : ok = false → r = mkS []
theorem BtAns.eq {B : Bnd} {r s : ByteArray} {a b : Bool} (h : BtAns B r a) (h' : BtAns B s b) : r = s ∧ a = b := by
  have e : a = b := by rw [Bool.eq_iff_iff, h.asked, h'.asked]
  subst e
  refine ⟨?_, rfl⟩
  cases a with
  | true => rw [h.yes rfl, h'.yes rfl]
  | false => rw [h.no rfl, h'.no rfl]

theorem BoundText_ok {w : World} (g : GP w) {a b c : Sl} {B : Bnd} (h : RBnd w a b c B) (hs : SmallB B) :
    Calls Tryz.prog F.i_BoundText #[.agg #[a.v, b.v, c.v]] w (Ret [.at .str, .at .bool] fun (r : ByteArray) (ok : Bool) w' => BtAns B r ok ∧ Ext w w') := by
  refine C_i_BoundText ?_
  unfold V_i_BoundText
  refine NEW_intro fun pb w1 hp1 hs1 hE1 hb1 => LD_box3 hb1 ?_
  refine call (BoundOf_ok (h.ext hE1) hs) ?_
  rintro n ok w2 ⟨hA, hE2⟩
  have hok : ok = true ↔ PsOk B.ps ∧ Right B := hA.1
  have hE02 := hE1.trans hE2
  refine cond_not (fun hf => ⟨⟨⟨(fun hh => by cases hh), (fun hh => by rw [hok.2 hh] at hf; cases hf)⟩, (fun hh => by cases hh), fun _ => rfl⟩, hE02⟩) (fun ht => ?_)
  obtain ⟨hps, hri⟩ := hok.1 ht
  have hF := bound_few hps hri hs.ps
  refine NEW_intro fun po w3 hp3 hs3 hE3 hb3 => LD_bs0 ((hb1.ext hE2).ext hE3) ?_
  have hE13 := hE2.trans hE3
  have h1 := h.ext hE1
  have g1 := g.ext hE1
  have hz2 := hE2.size_le
  have hB3 : Bld w3 w1.heap.size po [] := Bld.fresh hb3 (by omega)
  rw [mk_lit [10], mk_lit [109, 97, 112], mk_lit [110, 111, 116]]
  rw [h.ps.len]
  refine ⟨IN B.ps.length fun i w' => Ext w1 w' ∧ Bld w' w1.heap.size po ((B.ps.take i).flatMap prTextS), MN B.ps.length, IN_zero ⟨hE13, hB3⟩, ?_⟩
  rintro _ w4 ⟨i, rfl, hi, hE4, hB4⟩
  intros
  have h7 := hF.len
  refine cond_dec (fun hlt => ?_) (fun hge => ?_)
  · have hi' : i < B.ps.length := by omega
    have hq := hF.good B.ps[i] (List.getElem_mem hi')
    refine slr_ixP (h1.ps.ext hE4) hi' fun q z u hP hc => LD_pcells hc ?_
    refine NEW_ST (one4p B.ps[i].labels B.ps[i].degree z u) rfl fun pq w6 hp6 hE6 hb6 => LD_iiss hb6 ?_
    refine call (problemText_ok ((g1.ext hE4).ext hE6) (hP.ext hE6) hq.1 hq.2.1 hq.2.2) ?_
    rintro _ w7 ⟨rfl, hE7⟩
    have hE17 := hE4.trans (hE6.trans hE7)
    have hpl := psText_len (l := B.ps.take i) fun q hq => hF.good q (List.mem_of_mem_take hq)
    rw [List.length_take, Nat.min_eq_left hi] at hpl
    have hql := prText_len hq.1 hq.2.1 hq.2.2
    refine call (WriteString_ok ((hB4.ext hE6).ext hE7) hE17.size_le (by omega)) ?_
    rintro _ _ w8 ⟨hBel, hB8⟩
    refine IN_next (by omega) hi' ⟨Below.trans hE17 hBel, ?_⟩
    rw [List.take_succ_eq_append_getElem hi', List.flatMap_append]
    simpa using hB8
  · have : i = B.ps.length := by omega
    subst this
    rw [List.take_length] at hB4
    have hpl := psText_len hF.good
    have hml := linesS_len (few_len hF.maps.1 (w := wMap) (by decide))
    have hnl := linesS_len (few_len hF.pairs.1 (w := wNot) (by decide))
    rw [List.length_map] at hml hnl
    have hm1 := hF.maps.1.1
    have hn1 := hF.pairs.1.1
    refine LD_bs1 (hb1.ext hE4) ?_
    repeat' (with_reducible refine dropV1 ?_)
    refine bldLoop (w0 := w1) (wd := wMap) g1 h1.maps hF.maps.1 (by decide) hE4 hB4 (by omega) fun w9 hE9 hB9 => ?_
    refine LD_bs2 (hb1.ext hE9) ?_
    repeat' (with_reducible refine dropV1 ?_)
    refine bldLoop (w0 := w1) (wd := wNot) g1 h1.pairs hF.pairs.1 (by decide) hE9 hB9 (by rw [List.length_append]; omega) fun w12 hE12 hB12 => ?_
    refine call (BString_ok hB12 hE12.size_le) ?_
    rintro _ w15 ⟨rfl, hBel⟩
    have hE15 : Ext w1 w15 := Below.trans hE12 hBel
    exact ⟨⟨⟨fun _ => ⟨hps, hri⟩, fun _ => rfl⟩, fun _ => by unfold boTextS; rw [List.append_assoc], (fun hh => by cases hh)⟩, hE1.trans hE15⟩

/-! ### The reference -/

theorem boLine_ok {w : World} {wd : List UInt8} {s : Sl} {ns : List Int} (h : R w s ns) (hn : ∀ x ∈ ns, 0 ≤ x ∧ x < 1000000) (hl : ns.length ≤ 10000000) (hwd : wd.length ≤ 10000000) :
    Calls Tryz.prog F.s_boLine #[.string (mkS wd), s.v] w (Ret [.at .str] fun (r : ByteArray) w' => r = mkS (lineS wd ns ++ [10]) ∧ Ext w w') := by
  refine C_s_boLine ?_
  unfold V_s_boLine
  rw [h.len, mk_lit [10], mk_lit [32]]
  refine ⟨IN2 ns.length fun i (out : ByteArray) w' => Ext w w' ∧ out = mkS (lineS wd (ns.take i)), MN2 ns.length, IN2_zero ⟨Ext.refl _, by simp [lineS]⟩, ?_⟩
  rintro _ _ w1 ⟨i, rfl, hi, hE1, rfl⟩
  intros
  have hln := lineS_len wd (l := ns.take i) fun x hx => (hn x (List.mem_of_mem_take hx)).2
  rw [List.length_take] at hln
  refine cond_dec (fun hlt => ?_) (fun hge => ?_)
  rotate_left
  · have : i = ns.length := by omega
    subst this
    rw [List.take_length] at hln ⊢
    refine ⟨by rw [mkS_size, mkS_size]; simp only [List.length_cons, List.length_nil]; omega, ?_, hE1⟩
    rw [mkS_app]
  have hi' : i < ns.length := by omega
  have htk : ns.take (i + 1) = ns.take i ++ [ns[i]] := List.take_succ_eq_append_getElem hi'
  have hx := hn ns[i] (List.getElem_mem hi')
  have hx6 := numS_len hx.2
  refine (h.ext hE1).ixI hi' fun q hq hc => LD_int hc ?_
  obtain ⟨n, hnn⟩ : ∃ n : Nat, ns[i] = n := ⟨ns[i].toNat, by omega⟩
  rw [hnn] at hx6 ⊢
  rw [numS_nat] at hx6
  refine call (l1Num_ok n (by omega) w1) ?_
  rintro _ w2 ⟨rfl, hE2⟩
  refine ⟨by rw [mkS_size, mkS_size]; simp; omega, ?_⟩
  rw [mkS_app]
  refine ⟨by rw [mkS_size, mkS_size]; simp; omega, IN2_next (by omega) hi' ⟨hE1.trans hE2, ?_⟩⟩
  rw [mkS_app, htk, lineS_snoc, hnn, numS_nat]; rfl

theorem catLoop2 {w0 w : World} {t : Sl} {L : List (List Int)} {wd done : List UInt8} (hL : R w0 t L) (hF : Few L) (hP : Pos L) (hwd : wd.length ≤ 20) (hE : Ext w0 w) (hd : done.length ≤ 100000000000)
    {K : ByteArray → World → Prop} (hk : ∀ w', Ext w0 w' → K (mkS (done ++ linesS (L.map (lineS wd)))) w') :
    ∃ (I : ByteArray → Int → World → Prop) (m : ByteArray → Int → World → Nat), I (mkS done) 0 w ∧ ∀ (out : ByteArray) (x : Int) w5, I out x w5 →
      cond (decide ((x : Int) < t.len)) (
      IX t x 1 fun (pa : Addr) =>
      LD [.sl] pa w5 fun (y : Sl) =>
      Calls Tryz.prog F.s_boLine #[.string (mkS wd), y.v] w5 (Ret [.at .str] fun (z : ByteArray) w6 =>
      out.size + z.size ≤ 9223372036854775807 ∧ (
      I (out ++ z) (IntKind.i64.wrap (x + 1)) w6 ∧ m (out ++ z) (IntKind.i64.wrap (x + 1)) w6 < m out x w5))) (
      K out w5) := by
  rw [hL.len]
  refine ⟨IN2 L.length fun i (out : ByteArray) w' => Ext w0 w' ∧ out = mkS (done ++ linesS ((L.take i).map (lineS wd))), MN2 L.length, IN2_zero ⟨hE, by simp [linesS]⟩, ?_⟩
  rintro _ _ w5 ⟨i, rfl, hi, hE5, rfl⟩
  refine cond_dec (fun hlt => ?_) (fun hge => ?_)
  · have hi' : i < L.length := by omega
    have hrow := hF.2 L[i] (List.getElem_mem hi')
    have hpos := hP L[i] (List.getElem_mem hi')
    have hF1 := hF.1
    refine (hL.ext hE5).ixL hi' fun q t ht hc => LD_sl hc ?_
    refine call (boLine_ok (wd := wd) ht.any (fun x hx => ⟨hpos x hx, (hrow.2 x hx).2⟩) (by omega) (by omega)) ?_
    rintro _ w6 ⟨rfl, hE6⟩
    have hll := few_len hF hwd
    have hlb := linesS_len (n := 100) (L := (L.take i).map (lineS wd)) fun x hx => hll x (by
      obtain ⟨y, hy, rfl⟩ := List.mem_map.1 hx
      exact List.mem_map_of_mem (List.mem_of_mem_take hy))
    rw [List.length_map, List.length_take, Nat.min_eq_left hi] at hlb
    have hl1 := hll (lineS wd L[i]) (List.mem_map_of_mem (List.getElem_mem hi'))
    refine ⟨by rw [mkS_size, mkS_size]; simp only [List.length_append, List.length_cons, List.length_nil]; omega, IN2_next (by omega) hi' ⟨hE5.trans hE6, ?_⟩⟩
    rw [mkS_app, List.take_succ_eq_append_getElem hi', List.map_append, List.map_singleton, linesS_snoc, List.append_assoc]
  · have : i = L.length := by omega
    subst this
    rw [List.take_length]
    exact hk _ hE5

theorem boText_ok {w : World} {a b c : Sl} {B : Bnd} (h : RBnd w a b c B) (hF : BFew B) :
    Calls Tryz.prog F.s_boText #[.agg #[a.v, b.v, c.v]] w (Ret [.at .str] fun (r : ByteArray) w' => r = mkS (boTextS B) ∧ Ext w w') := by
  refine C_s_boText ?_
  unfold V_s_boText
  refine NEW_intro fun pb w1 hp1 hs1 hE1 hb1 => LD_bs0 hb1 ?_
  have h1 := h.ext hE1
  have h7 := hF.len
  rw [mk_lit [], mk_lit [109, 97, 112], mk_lit [110, 111, 116]]
  rw [h.ps.len]
  refine ⟨IN2 B.ps.length fun i (out : ByteArray) w' => Ext w1 w' ∧ out = mkS ((B.ps.take i).flatMap prTextS), MN2 B.ps.length, IN2_zero ⟨Ext.refl _, by simp⟩, ?_⟩
  rintro _ _ w4 ⟨i, rfl, hi, hE4, rfl⟩
  intros
  refine cond_dec (fun hlt => ?_) (fun hge => ?_)
  · have hi' : i < B.ps.length := by omega
    have hq := hF.good B.ps[i] (List.getElem_mem hi')
    refine slr_ixP (h1.ps.ext hE4) hi' fun q z u hP hc => LD_pcells hc ?_
    refine NEW_ST (one4p B.ps[i].labels B.ps[i].degree z u) rfl fun pq w6 hp6 hE6 hb6 => LD_iiss hb6 ?_
    refine call (prText_ok (hP.ext hE6) hq.1 hq.2.1 hq.2.2) ?_
    rintro _ w7 ⟨rfl, hE7⟩
    have hE17 := hE4.trans (hE6.trans hE7)
    have hpl := psText_len (l := B.ps.take i) fun q hq => hF.good q (List.mem_of_mem_take hq)
    rw [List.length_take, Nat.min_eq_left hi] at hpl
    have hql := prText_len hq.1 hq.2.1 hq.2.2
    refine ⟨by rw [mkS_size, mkS_size]; omega, IN2_next (by omega) hi' ⟨hE17, ?_⟩⟩
    rw [mkS_app, List.take_succ_eq_append_getElem hi', List.flatMap_append]
    simp
  · have : i = B.ps.length := by omega
    subst this
    rw [List.take_length]
    have hpl := psText_len hF.good
    have hml := linesS_len (few_len hF.maps.1 (w := wMap) (by decide))
    rw [List.length_map] at hml
    have hm1 := hF.maps.1.1
    refine LD_bs1 (hb1.ext hE4) ?_
    repeat' (with_reducible refine dropV2 ?_)
    refine catLoop2 (w0 := w1) (wd := wMap) h1.maps hF.maps.1 hF.maps.2 (by decide) hE4 (by omega) fun w9 hE9 => ?_
    refine LD_bs2 (hb1.ext hE9) ?_
    repeat' (with_reducible refine dropV2 ?_)
    refine catLoop2 (w0 := w1) (wd := wNot) h1.pairs hF.pairs.1 hF.pairs.2 (by decide) hE9 (by rw [List.length_append]; omega) fun w12 hE12 => ?_
    exact ⟨by unfold boTextS; rw [List.append_assoc], hE1.trans hE12⟩

theorem boGood2_ok {w : World} {a b c : Sl} {B : Bnd} (h : RBnd w a b c B) :
    Calls Tryz.prog F.s_boGood #[.agg #[a.v, b.v, c.v]] w (Ret [.at .bool] fun (ok : Bool) w' => (ok = true ↔ PsOk B.ps ∧ Right B) ∧ Ext w w') := by
  refine C_s_boGood ?_
  unfold V_s_boGood
  refine NEW_intro fun pc w2 hp2 hs2 hE hc => LD_bs0 hc ?_
  replace h := h.ext hE
  refine call (boTwo_ok h.ps) ?_
  rintro x w3 ⟨hx, hE3⟩
  replace hE := hE.ext hE3
  replace h := h.ext hE3
  replace hc := hc.ext hE3
  refine cond_b (fun ht => LD_box3 hc ?_) (fun hf => ⟨⟨(fun ht => by cases ht), (fun hA => by rw [hx.2 hA.1] at hf; cases hf)⟩, hE⟩)
  have hp := hx.1 ht
  refine call (boRight_ok h hp) ?_
  rintro y w4 ⟨hy, hE4⟩
  exact ⟨hy.trans ⟨fun hr => ⟨hp, hr⟩, fun hA => hA.2⟩, hE.trans hE4⟩

end Go.Proofs.YtaeledhbkdakcaaGreatDoor
end

section
/- Lines of a bound's text, taken one by one. No program is named here. -/
namespace Go.Proofs.YtaeledhbkdakcaaGreatDoor
open Go.GX Go.RowKit
set_option maxRecDepth 100000

def nilB : Bnd := ⟨[], [], []⟩
abbrev Itm := List UInt8 × List Int
def itmS (x : Itm) : List UInt8 := lineS x.1 x.2
def itemsP (q : Prob) : List Itm := (wProblem, [q.labels, q.degree]) :: (q.nodes.map (fun r => (wNode, r)) ++ q.edges.map (fun r => (wEdge, r)))
def itemsM (B : Bnd) : List Itm := B.maps.map (fun r => (wMap, r)) ++ B.pairs.map (fun r => (wNot, r))
def itemsB (B : Bnd) : List Itm := B.ps.flatMap itemsP ++ itemsM B

theorem itemsP_lines (q : Prob) : (itemsP q).map itmS = prLinesS q := by
  simp [itemsP, prLinesS, itmS, Function.comp_def]
theorem linesS_app (L M : List (List UInt8)) : linesS (L ++ M) = linesS L ++ linesS M := by simp [linesS]
theorem prText_items (q : Prob) : prTextS q = linesS ((itemsP q).map itmS) := by rw [itemsP_lines]; rfl
theorem boText_items (B : Bnd) : boTextS B = linesS ((itemsB B).map itmS) := by
  unfold boTextS itemsB itemsM
  rw [List.map_append, linesS_app, List.map_append, linesS_app, List.map_map, List.map_map]
  congr 1
  · induction B.ps with
    | nil => rfl
    | cons q l ih => rw [List.flatMap_cons, List.flatMap_cons, List.map_append, linesS_app, ← prText_items, ih]

/-! ### The program's state -/

def addN (ns : List Int) (q : Prob) : Prob := ⟨q.labels, q.degree, q.nodes ++ [ns], q.edges⟩
def addE (ns : List Int) (q : Prob) : Prob := ⟨q.labels, q.degree, q.nodes, q.edges ++ [ns]⟩
def onLast (ps : List Prob) (f : Prob → Prob) : List Prob := ps.set (ps.length - 1) (f (ps.getD (ps.length - 1) ⟨0, 0, [], []⟩))
theorem onLast_snoc (A : List Prob) (q : Prob) (f : Prob → Prob) : onLast (A ++ [q]) f = A ++ [f q] := by simp [onLast]

def bStep (B : Bnd) (x : Itm) : Option Bnd :=
  if x.1 = wProblem ∧ x.2.length = 2 then some ⟨B.ps ++ [⟨x.2.getD 0 0, x.2.getD 1 0, [], []⟩], B.maps, B.pairs⟩
  else if B.ps = [] then none
  else if x.1 = wNode then some ⟨onLast B.ps (addN x.2), B.maps, B.pairs⟩
  else if x.1 = wEdge then some ⟨onLast B.ps (addE x.2), B.maps, B.pairs⟩
  else if x.1 = wMap then some ⟨B.ps, B.maps ++ [x.2], B.pairs⟩
  else if x.1 = wNot then some ⟨B.ps, B.maps, B.pairs ++ [x.2]⟩
  else none

def bRun (B : Bnd) : List Itm → Option Bnd
  | [] => some B
  | x :: R => match bStep B x with
    | some B' => bRun B' R
    | none => none

theorem bRun_cons {B B' : Bnd} {x : Itm} {R : List Itm} (h : bStep B x = some B') : bRun B (x :: R) = bRun B' R := by
  show (match bStep B x with | some B' => bRun B' R | none => none) = _
  rw [h]
theorem bRun_step {B C : Bnd} {x : Itm} {R : List Itm} (h : bRun B (x :: R) = some C) : ∃ B', bStep B x = some B' ∧ bRun B' R = some C := by
  have h' : (match bStep B x with | some B' => bRun B' R | none => none) = some C := h
  cases hb : bStep B x with
  | none => rw [hb] at h'; cases h'
  | some B' => rw [hb] at h'; exact ⟨B', rfl, h'⟩

theorem bRun_nodes (A : List Prob) (M P : List (List Int)) (R : List Itm) : ∀ (L : List (List Int)) (q : Prob), bRun ⟨A ++ [q], M, P⟩ (L.map (fun r => (wNode, r)) ++ R) = bRun ⟨A ++ [⟨q.labels, q.degree, q.nodes ++ L, q.edges⟩], M, P⟩ R
  | [], q => by simp
  | x :: L, q => by
    rw [List.map_cons, List.cons_append, bRun_cons (B' := ⟨A ++ [addN x q], M, P⟩) (by
      unfold bStep
      rw [if_neg (fun h => (by decide : wNode ≠ wProblem) h.1), if_neg (by simp), if_pos rfl]
      simp only [onLast_snoc]), bRun_nodes A M P R L (addN x q)]
    simp [addN]
theorem bRun_edges (A : List Prob) (M P : List (List Int)) (R : List Itm) : ∀ (L : List (List Int)) (q : Prob), bRun ⟨A ++ [q], M, P⟩ (L.map (fun r => (wEdge, r)) ++ R) = bRun ⟨A ++ [⟨q.labels, q.degree, q.nodes, q.edges ++ L⟩], M, P⟩ R
  | [], q => by simp
  | x :: L, q => by
    rw [List.map_cons, List.cons_append, bRun_cons (B' := ⟨A ++ [addE x q], M, P⟩) (by
      unfold bStep
      rw [if_neg (fun h => (by decide : wEdge ≠ wProblem) h.1), if_neg (by simp), if_neg (by decide : ¬ wEdge = wNode), if_pos rfl]
      simp only [onLast_snoc]), bRun_edges A M P R L (addE x q)]
    simp [addE]
theorem bRun_prob (A : List Prob) (M P : List (List Int)) (R : List Itm) (q : Prob) : bRun ⟨A, M, P⟩ (itemsP q ++ R) = bRun ⟨A ++ [q], M, P⟩ R := by
  unfold itemsP
  rw [List.cons_append, bRun_cons (B' := ⟨A ++ [⟨q.labels, q.degree, [], []⟩], M, P⟩) (by unfold bStep; rw [if_pos ⟨rfl, rfl⟩]; rfl), List.append_assoc, bRun_nodes, bRun_edges]
  simp
theorem bRun_probs (M P : List (List Int)) (R : List Itm) : ∀ (C A : List Prob), bRun ⟨A, M, P⟩ (C.flatMap itemsP ++ R) = bRun ⟨A ++ C, M, P⟩ R
  | [], A => by simp
  | q :: C, A => by rw [List.flatMap_cons, List.append_assoc, bRun_prob, bRun_probs M P R C]; simp
theorem bRun_maps {A : List Prob} (hA : A ≠ []) (P : List (List Int)) (R : List Itm) : ∀ (L M : List (List Int)), bRun ⟨A, M, P⟩ (L.map (fun r => (wMap, r)) ++ R) = bRun ⟨A, M ++ L, P⟩ R
  | [], M => by simp
  | x :: L, M => by
    rw [List.map_cons, List.cons_append, bRun_cons (B' := ⟨A, M ++ [x], P⟩) (by
      unfold bStep
      rw [if_neg (fun h => (by decide : wMap ≠ wProblem) h.1), if_neg hA, if_neg (by decide : ¬ wMap = wNode), if_neg (by decide : ¬ wMap = wEdge), if_pos rfl]), bRun_maps hA P R L]
    simp
theorem bRun_nots {A : List Prob} (hA : A ≠ []) (M : List (List Int)) (R : List Itm) : ∀ (L P : List (List Int)), bRun ⟨A, M, P⟩ (L.map (fun r => (wNot, r)) ++ R) = bRun ⟨A, M, P ++ L⟩ R
  | [], P => by simp
  | x :: L, P => by
    rw [List.map_cons, List.cons_append, bRun_cons (B' := ⟨A, M, P ++ [x]⟩) (by
      unfold bStep
      rw [if_neg (fun h => (by decide : wNot ≠ wProblem) h.1), if_neg hA, if_neg (by decide : ¬ wNot = wNode), if_neg (by decide : ¬ wNot = wEdge), if_neg (by decide : ¬ wNot = wMap), if_pos rfl]), bRun_nots hA M R L]
    simp
theorem bRun_items {B : Bnd} (h : B.ps ≠ []) : bRun nilB (itemsB B) = some B := by
  unfold itemsB itemsM nilB
  rw [bRun_probs, List.nil_append, bRun_maps h]
  have e := bRun_nots h ([] ++ B.maps) [] B.pairs []
  rw [List.append_nil] at e
  rw [e]
  simp [bRun]

theorem itemsP_inj {p q : Prob} (h : itemsP p = itemsP q) : p = q := by
  have e1 := bRun_prob [] [] [] [] p
  have e2 := bRun_prob [] [] [] [] q
  rw [h, e2] at e1
  have e3 : some (⟨[] ++ [q], [], []⟩ : Bnd) = some ⟨[] ++ [p], [], []⟩ := e1
  simp at e3
  exact e3.symm

/-! ### The reference's state -/

open Classical in
noncomputable def pickP (T : List Itm) : Option Prob := if h : ∃ q, PGood q ∧ itemsP q = T then some h.choose else none
theorem pickP_items {q : Prob} (h : PGood q) : pickP (itemsP q) = some q := by
  have hx : ∃ p, PGood p ∧ itemsP p = itemsP q := ⟨q, h, rfl⟩
  unfold pickP
  rw [dif_pos hx]
  exact congrArg some (itemsP_inj hx.choose_spec.2)
theorem pickP_some {q : Prob} {T : List Itm} (h : pickP T = some q) : PGood q ∧ itemsP q = T := by
  unfold pickP at h
  split at h
  · next hx => cases h; exact hx.choose_spec
  · cases h

noncomputable def flush (B : Bnd) (T : List Itm) : Option Bnd := if T = [] then some B else (pickP T).map fun q => ⟨B.ps ++ [q], B.maps, B.pairs⟩
noncomputable def sRun : Bnd → List Itm → List Itm → Option Bnd
  | B, T, [] => flush B T
  | B, T, x :: R =>
    if x.1 = wProblem then (flush B T).bind fun B' => sRun B' [x] R
    else if x.1 = wMap then (flush B T).bind fun B' => sRun ⟨B'.ps, B'.maps ++ [x.2], B'.pairs⟩ [] R
    else if x.1 = wNot then (flush B T).bind fun B' => sRun ⟨B'.ps, B'.maps, B'.pairs ++ [x.2]⟩ [] R
    else if x.1 = wNode ∨ x.1 = wEdge then sRun B (T ++ [x]) R
    else none

theorem flush_nil (B : Bnd) : flush B [] = some B := by unfold flush; rw [if_pos rfl]
theorem flush_items {B : Bnd} {q : Prob} (h : PGood q) : flush B (itemsP q) = some ⟨B.ps ++ [q], B.maps, B.pairs⟩ := by
  unfold flush
  rw [if_neg (by simp [itemsP]), pickP_items h]; rfl

theorem sRun_acc (B : Bnd) (R : List Itm) : ∀ (L T : List Itm), (∀ x ∈ L, x.1 = wNode ∨ x.1 = wEdge) → sRun B T (L ++ R) = sRun B (T ++ L) R
  | [], T, _ => by simp
  | x :: L, T, h => by
    have hx := h x (by simp)
    have e : sRun B T (x :: (L ++ R)) = sRun B (T ++ [x]) (L ++ R) := by
      rw [sRun]
      rw [if_neg (by rcases hx with hx | hx <;> rw [hx] <;> decide), if_neg (by rcases hx with hx | hx <;> rw [hx] <;> decide), if_neg (by rcases hx with hx | hx <;> rw [hx] <;> decide), if_pos hx]
    rw [List.cons_append, e, sRun_acc B R L (T ++ [x]) fun y hy => h y (by simp [hy])]
    simp

def CutI (R : List Itm) : Prop := R = [] ∨ ∃ x R', R = x :: R' ∧ (x.1 = wProblem ∨ x.1 = wMap ∨ x.1 = wNot)
theorem sRun_cut {B : Bnd} {q : Prob} (h : PGood q) {R : List Itm} (hR : CutI R) : sRun B (itemsP q) R = sRun ⟨B.ps ++ [q], B.maps, B.pairs⟩ [] R := by
  rcases hR with rfl | ⟨x, R', rfl, hx⟩
  · rw [sRun, sRun, flush_items h, flush_nil]
  · rw [sRun, sRun, flush_items h, flush_nil]
    rcases hx with hx | hx | hx <;> rw [hx]
    · rw [if_pos rfl, if_pos rfl]
    · have d1 : ¬ wMap = wProblem := by decide
      rw [if_neg d1, if_neg d1, if_pos rfl, if_pos rfl]
    · have d1 : ¬ wNot = wProblem := by decide
      have d2 : ¬ wNot = wMap := by decide
      rw [if_neg d1, if_neg d2, if_neg d1, if_neg d2, if_pos rfl, if_pos rfl]

theorem sRun_probs {R : List Itm} (hR : CutI R) (M P : List (List Int)) : ∀ (C A : List Prob), (∀ q ∈ C, PGood q) → sRun ⟨A, M, P⟩ [] (C.flatMap itemsP ++ R) = sRun ⟨A ++ C, M, P⟩ [] R
  | [], A, _ => by simp
  | q :: C, A, h => by
    have hq := h q (by simp)
    have hcut : CutI (C.flatMap itemsP ++ R) := by
      cases C with
      | nil => simpa using hR
      | cons p C => exact .inr ⟨_, _, rfl, .inl rfl⟩
    have e : itemsP q = (wProblem, [q.labels, q.degree]) :: (q.nodes.map (fun r => (wNode, r)) ++ q.edges.map (fun r => (wEdge, r))) := rfl
    rw [List.flatMap_cons, List.append_assoc]
    have e1 : sRun ⟨A, M, P⟩ [] (itemsP q ++ (C.flatMap itemsP ++ R)) = sRun ⟨A, M, P⟩ (itemsP q) (C.flatMap itemsP ++ R) := by
      rw [e, List.cons_append, sRun, if_pos rfl, flush_nil]
      show sRun ⟨A, M, P⟩ [(wProblem, [q.labels, q.degree])] _ = _
      rw [sRun_acc]
      · rfl
      · intro x hx
        rcases List.mem_append.1 hx with hx | hx
        · obtain ⟨r, _, rfl⟩ := List.mem_map.1 hx; exact .inl rfl
        · obtain ⟨r, _, rfl⟩ := List.mem_map.1 hx; exact .inr rfl
    rw [e1, sRun_cut hq hcut, sRun_probs hR M P C _ fun p hp => h p (by simp [hp])]
    simp
theorem sRun_maps (A : List Prob) (P : List (List Int)) (R : List Itm) : ∀ (L M : List (List Int)), sRun ⟨A, M, P⟩ [] (L.map (fun r => (wMap, r)) ++ R) = sRun ⟨A, M ++ L, P⟩ [] R
  | [], M => by simp
  | x :: L, M => by
    rw [List.map_cons, List.cons_append, sRun, if_neg (by decide : ¬ wMap = wProblem), if_pos rfl, flush_nil]
    show sRun ⟨A, M ++ [x], P⟩ [] _ = _
    rw [sRun_maps A P R L]; simp
theorem sRun_nots (A : List Prob) (M : List (List Int)) (R : List Itm) : ∀ (L P : List (List Int)), sRun ⟨A, M, P⟩ [] (L.map (fun r => (wNot, r)) ++ R) = sRun ⟨A, M, P ++ L⟩ [] R
  | [], P => by simp
  | x :: L, P => by
    rw [List.map_cons, List.cons_append, sRun, if_neg (by decide : ¬ wNot = wProblem), if_neg (by decide : ¬ wNot = wMap), if_pos rfl, flush_nil]
    show sRun ⟨A, M, P ++ [x]⟩ [] _ = _
    rw [sRun_nots A M R L]; simp
theorem cut_items (B : Bnd) : CutI (itemsM B) := by
  unfold itemsM
  cases B.maps with
  | cons x l => exact .inr ⟨_, _, rfl, .inr (.inl rfl)⟩
  | nil => cases B.pairs with
    | nil => exact .inl rfl
    | cons x l => exact .inr ⟨_, _, rfl, .inr (.inr rfl)⟩
theorem sRun_items {B : Bnd} (h : ∀ q ∈ B.ps, PGood q) : sRun nilB [] (itemsB B) = some B := by
  unfold itemsB nilB
  rw [sRun_probs (cut_items B) _ _ _ _ h, List.nil_append]
  unfold itemsM
  rw [sRun_maps]
  have e := sRun_nots B.ps ([] ++ B.maps) [] B.pairs []
  rw [List.append_nil] at e
  rw [e, sRun, flush_nil]
  simp

theorem boText_inj {B C : Bnd} (hB : B.ps ≠ []) (hC : C.ps ≠ []) (h : itemsB B = itemsB C) : B = C := by
  have e := bRun_items hB
  rw [h, bRun_items hC] at e
  exact (Option.some.inj e).symm

/-! ### How many lines -/

def rowsF (hi : Nat) : Nat → Nat → List (List Int)
  | _, 0 => [[]]
  | lo, d + 1 => (List.range hi).flatMap fun x => if lo ≤ x then (rowsF hi x d).map ((x : Int) :: ·) else []

theorem rowsF_mem {hi : Nat} : ∀ (r : List Int) (lo : Nat), r.Pairwise (· ≤ ·) → (∀ x ∈ r, (lo : Int) ≤ x ∧ x < hi) → r ∈ rowsF hi lo r.length
  | [], lo, _, _ => by simp [rowsF]
  | x :: r, lo, hp, hr => by
    have hx := hr x (by simp)
    obtain ⟨n, rfl⟩ : ∃ n : Nat, x = n := ⟨x.toNat, by omega⟩
    rw [List.length_cons, rowsF]
    refine List.mem_flatMap.2 ⟨n, List.mem_range.2 (by omega), ?_⟩
    rw [if_pos (by omega)]
    have hp' := List.pairwise_cons.1 hp
    exact List.mem_map.2 ⟨r, rowsF_mem r n hp'.2 fun y hy => ⟨hp'.1 y hy, (hr y (by simp [hy])).2⟩, rfl⟩

theorem nodup_len {α : Type} [DecidableEq α] : ∀ {L M : List α}, L.Nodup → (∀ x ∈ L, x ∈ M) → L.length ≤ M.length
  | [], M, _, _ => by simp
  | x :: L, M, hn, h => by
    have hn' := List.nodup_cons.1 hn
    have hx := h x (by simp)
    have h1 := nodup_len (L := L) (M := M.erase x) hn'.2 fun y hy => (List.mem_erase_of_ne (by rintro rfl; exact hn'.1 hy)).2 (h y (by simp [hy]))
    have h2 := List.length_erase_of_mem hx
    have h3 : 0 < M.length := List.length_pos_of_mem hx
    rw [List.length_cons]; omega

theorem ConfOk.count {L : List (List Int)} {s n : Int} (h : ConfOk L s n) {d : Nat} (hs : s = d) (hn : n ≤ 8) : L.length ≤ (rowsF 8 0 d).length := by
  refine nodup_len ?_ fun r hr => ?_
  · rw [List.nodup_iff_pairwise_ne, List.pairwise_iff_getElem]
    intro i j hi hj hij he
    have := h.lt j i hij hj
    rw [cmpL_zero.2 he] at this
    omega
  · obtain ⟨i, hi, rfl⟩ := List.mem_iff_getElem.1 hr
    obtain ⟨h1, h2, h3⟩ := h.row i hi
    have h4 : L[i].length = d := by omega
    have := rowsF_mem (hi := 8) L[i] 0 h2 fun x hx => by have := h3 x hx; omega
    rwa [h4] at this
theorem rowsF_len : (rowsF 8 0 1).length ≤ 330 ∧ (rowsF 8 0 2).length ≤ 36 ∧ (rowsF 8 0 3).length ≤ 330 ∧ (rowsF 8 0 4).length ≤ 330 := by decide +kernel
theorem PGood.count {q : Prob} (h : PGood q) : q.nodes.length ≤ 330 ∧ q.edges.length ≤ 36 := by
  have hd := h.deg
  have hl := h.lab
  obtain ⟨r1, r2, r3, r4⟩ := rowsF_len
  refine ⟨?_, Nat.le_trans (h.edges.count (d := 2) rfl hl.2) r2⟩
  obtain h4 | h4 | h4 | h4 : q.degree = 1 ∨ q.degree = 2 ∨ q.degree = 3 ∨ q.degree = 4 := by omega
  · exact Nat.le_trans (h.nodes.count (d := 1) h4 hl.2) r1
  · exact Nat.le_trans (h.nodes.count (d := 2) h4 hl.2) (by omega)
  · exact Nat.le_trans (h.nodes.count (d := 3) h4 hl.2) r3
  · exact Nat.le_trans (h.nodes.count (d := 4) h4 hl.2) r4
theorem itemsP_len {q : Prob} (h : PGood q) : (itemsP q).length ≤ 367 := by
  have := h.count
  simp [itemsP]; omega
theorem itemsPs_len : ∀ {l : List Prob}, (∀ q ∈ l, PGood q) → (l.flatMap itemsP).length ≤ 367 * l.length
  | [], _ => by simp
  | q :: l, h => by
    have h1 := itemsP_len (h q (by simp))
    have h2 := itemsPs_len (l := l) fun p hp => h p (by simp [hp])
    rw [List.flatMap_cons, List.length_append, List.length_cons]; omega
theorem itemsB_len {B : Bnd} (hp : PsOk B.ps) (hr : Right B) : (itemsB B).length ≤ 2905 := by
  have h1 := itemsPs_len fun q hq => (hp.2 q hq).1
  have h2 := hp.1
  have h3 := hr.len
  have hi : B.ps.length - 1 < B.ps.length := by omega
  have h4 := (hr.zero _ hi (by omega)).1
  have h5 := (hp.2 _ (List.getElem_mem hi)).1.count
  unfold itemsB itemsM
  rw [List.length_append, List.length_append, List.length_map, List.length_map]
  omega
end Go.Proofs.YtaeledhbkdakcaaGreatDoor
end

section
/- Lists of problems and bounds of the call's own: what marks do to them. -/
namespace Go.GX
open Go.RowKit

/-- One cell of a record is written. -/
theorem ST_field {α : Type} [Flat α] {w : World} {base : Nat} {e : TypeId} {s : Sl} {l : List α} (h : OwnL w base e s l) {i : Nat} (hi : i < l.length) {p : Addr} (hp : Plc s i (Rep.sz α) p) {off : Nat} (hoff : off < Rep.sz α) {v : Value} (hv1 : v.oneCell' = true) (x : α) (hx : Flat.cells x = (Flat.cells l[i]).set off v) {K : World → Prop}
    (hk : ∀ w', OwnL w' base e s (l.set i x) → Step w w' s.v.ownBlock → K w') : ST (p.add off) 0 [v] w K := by
  obtain ⟨a, ha, rfl⟩ := hp
  rcases h.2.2 with ⟨hv, h0⟩ | ⟨g, cap, cur, hv, _⟩
  · rw [h.1] at h0; omega
  · have hv' := hv
    simp [Sl.v] at hv
    obtain ⟨hsa, rfl⟩ := hv
    rw [hsa] at ha; cases ha
    have hown : w.ownsRow base e (Rep.sz α) (.slice (some ⟨g, 0, none⟩) s.len s.cap) s.len (l.flatMap Flat.cells) := by
      have := h.2; unfold Own at this; rw [hv'] at this; exact this
    have hlen : (l.flatMap Flat.cells).length = l.length * Rep.sz α := by have := h.2.length; rwa [h.1] at this
    have hle : (i + 1) * Rep.sz α ≤ l.length * Rep.sz α := Nat.mul_le_mul_right _ hi
    rw [Nat.succ_mul] at hle
    refine setMany_own [v] (i * Rep.sz α + off) _ w K hown (by simpa using hv1) (by rw [hlen, List.length_singleton]; omega) (fun w' hw' hs => hk w' ⟨by simp [h.1], ?_⟩ (by rw [hv']; exact hs)) _ 0 (by rw [add_zero', add_add]; simp only [Addr.add]; split <;> simp_all)
    unfold Own
    rw [hv', flat_set l hi x, hx]
    have hcl : (Flat.cells l[i]).length = Rep.sz α := Flat.size _
    have e1 : l.flatMap Flat.cells = (l.flatMap Flat.cells).take (i * Rep.sz α) ++ Flat.cells l[i] ++ (l.flatMap Flat.cells).drop (i * Rep.sz α + (Flat.cells l[i]).length) := by
      have := flat_set l hi l[i]
      rwa [List.set_getElem_self] at this
    have e2 : (l.flatMap Flat.cells).take (i * Rep.sz α + off) ++ [v] ++ (l.flatMap Flat.cells).drop (i * Rep.sz α + off + 1) = (l.flatMap Flat.cells).set (i * Rep.sz α + off) v := by
      rw [List.set_eq_take_append_cons_drop, if_pos (by omega)]
      simp
    rw [List.length_singleton, e2] at hw'
    rw [e1, List.set_append_left _ _ (by rw [List.length_append, List.length_take, hcl]; omega), List.set_append_right _ _ (by rw [List.length_take]; omega)] at hw'
    rw [List.length_take, Nat.min_eq_left (by omega), Nat.add_sub_cancel_left] at hw'
    rw [List.length_set]
    exact hw'

end Go.GX
namespace Go.Proofs.YtaeledhbkdakcaaGreatDoor
open Go.GX Go.RowKit
set_option maxRecDepth 100000

/-! ### Matrices whose blocks have an owner -/

structure InB (base top : Nat) (own : Nat → Nat) (i : Nat) (w : World) (s : Sl) (L : List (List Int)) : Prop where
  ex : ∃ ss : List Sl, RowsD w base T.t_int T.t_sl_int s L ss ∧ ∀ b, MB s ss b → own b = i ∧ b < top
  i64 : ∀ r ∈ L, ∀ x ∈ r, I64 x
  rows : L.length ≤ 1048576
  small : ∀ r ∈ L, r.length ≤ 1048576

section
variable {base top : Nat} {own : Nat → Nat} {i : Nat} {w w' : World} {s : Sl} {L : List (List Int)}

theorem InB.rep (h : InB base top own i w s L) : R w s L := by
  obtain ⟨ss, hM, _⟩ := h.ex
  exact hM.rep h.i64
theorem InB.keep (h : InB base top own i w s L) (hk : ∀ b, own b = i → base ≤ b → b < top → b < w.heap.size → w'.heap[b]? = w.heap[b]?) : InB base top own i w' s L := by
  obtain ⟨ss, hM, hb⟩ := h.ex
  exact ⟨⟨ss, hM.keepB fun b hB => hk b (hb b hB).1 (hM.blk hB).1 (hb b hB).2 (hM.blk hB).2, hb⟩, h.i64, h.rows, h.small⟩
theorem InB.away (h : InB base top own i w s L) {D : Nat → Prop} (hC : Chg w w' D) (hd : ∀ b, own b = i → base ≤ b → b < top → ¬ D b) : InB base top own i w' s L :=
  h.keep fun b h1 h2 h3 h4 => hC.block b h4 (hd b h1 h2 h3)
theorem InB.ext (h : InB base top own i w s L) (hE : Ext w w') : InB base top own i w' s L := h.away (Chg.of_ext (D := fun _ => False) hE) fun _ _ _ _ h => h
theorem InB.reown (h : InB base top own i w s L) {own' : Nat → Nat} {i' : Nat} (ho : ∀ b, base ≤ b → b < w.heap.size → b < top → own b = i → own' b = i') : InB base top own' i' w s L := by
  obtain ⟨ss, hM, hb⟩ := h.ex
  exact ⟨⟨ss, hM, fun b hB => ⟨ho b (hM.blk hB).1 (hM.blk hB).2 (hb b hB).2 (hb b hB).1, (hb b hB).2⟩⟩, h.i64, h.rows, h.small⟩
theorem InB.upTo (h : InB base top own i w s L) {t : Nat} (ht : top ≤ t) : InB base t own i w s L := by
  obtain ⟨ss, hM, hb⟩ := h.ex
  exact ⟨⟨ss, hM, fun b hB => ⟨(hb b hB).1, by have := (hb b hB).2; omega⟩⟩, h.i64, h.rows, h.small⟩
theorem InB.low (h : InB base top own i w s L) {b : Nat} (hb : b ≤ base) : InB b top own i w s L := by
  obtain ⟨ss, hM, ho⟩ := h.ex
  exact ⟨⟨ss, hM.low hb, ho⟩, h.i64, h.rows, h.small⟩
theorem InB.of (h : OutM base w s L) (ho : ∀ b, base ≤ b → b < w.heap.size → own b = i) : InB base w.heap.size own i w s L := by
  obtain ⟨ss, hM⟩ := h.ex
  exact ⟨⟨ss, hM, fun b hB => ⟨ho b (hM.blk hB).1 (hM.blk hB).2, (hM.blk hB).2⟩⟩, h.i64, h.rows, h.small⟩
theorem InB.nil (base top : Nat) (own : Nat → Nat) (i : Nat) (w : World) : InB base top own i w ⟨none, 0, 0⟩ [] := ⟨⟨[], RowsD.nil _ _ _ _, fun b hB => by
  rcases hB with hB | ⟨r, hr, _⟩
  · cases hB
  · cases hr⟩, by simp, by simp, by simp⟩

theorem InB.mark (h : InB base top own i w s L) (k : Int) (h0 : 0 ≤ k) (h1 : k ≤ 112589990684262400) :
    Calls Tryz.prog F.l_markIntSS #[s.v, .int .i64 k] w (Ret [.at (.int .i64)] fun (r : Int) w' => r = k + pre L L.length ∧ InB base top own i w' s (marks2 k L) ∧ Chg w w' (fun b => own b = i ∧ base ≤ b ∧ b < top)) := by
  obtain ⟨ss, hM, hb⟩ := h.ex
  refine call (markIntSS_rows hM h.rows h.small k h0 (by omega)) ?_
  rintro r w' ⟨hr, hM', hC⟩
  refine ⟨hr, ⟨⟨ss, hM', hb⟩, marks2_I64 h0 (by omega) h.rows h.small, by rw [marks2_len]; exact h.rows, fun q hq => ?_⟩, hC.mono fun b hB => ⟨(hb b (.inr hB)).1, (hM.blk (.inr hB)).1, (hb b (.inr hB)).2⟩⟩
  obtain ⟨j, hj, rfl⟩ := List.mem_iff_getElem.1 hq
  have hjL : j < L.length := by rwa [marks2_len] at hj
  rw [marks2_get hjL, marks_length]
  exact h.small _ (List.getElem_mem hjL)
end

/-! ### Lists of problems -/

def szP (q : Prob) : Nat := 2 + pre q.nodes q.nodes.length + pre q.edges q.edges.length
def preP (l : List Prob) (i : Nat) : Nat := ((l.take i).map szP).sum
def markPr (k : Int) (q : Prob) : Prob := ⟨k, k + 1, marks2 (k + 2) q.nodes, marks2 (k + 2 + pre q.nodes q.nodes.length) q.edges⟩
/-- The first problems marked. -/
def marksP (k : Int) (l : List Prob) (i : Nat) : List Prob := (List.range l.length).map fun j => if j < i then markPr (k + preP l j) (l.getD j ⟨0, 0, [], []⟩) else l.getD j ⟨0, 0, [], []⟩

theorem preP_succ {l : List Prob} {i : Nat} (hi : i < l.length) : preP l (i + 1) = preP l i + szP l[i] := by
  unfold preP
  rw [List.take_succ_eq_append_getElem hi, List.map_append, List.sum_append]
  simp
theorem preP_le {l : List Prob} {i : Nat} (hi : i ≤ l.length) : preP l i ≤ preP l l.length := by
  obtain ⟨k, hk⟩ : ∃ k, l.length = i + k := ⟨l.length - i, by omega⟩
  clear hi
  rw [hk]
  have : ∀ k, i + k ≤ l.length → preP l i ≤ preP l (i + k) := by
    intro k
    induction k with
    | zero => intro _; exact Nat.le_refl _
    | succ k ih =>
      intro h
      have h1 := ih (by omega)
      have h2 := preP_succ (l := l) (i := i + k) (by omega)
      rw [← Nat.add_assoc, h2]
      omega
  exact this k (by omega)
theorem marksP_len (k : Int) (l : List Prob) (i : Nat) : (marksP k l i).length = l.length := by simp [marksP]
theorem marksP_get {k : Int} {l : List Prob} {i j : Nat} (hj : j < l.length) : (marksP k l i)[j]'(by rw [marksP_len]; exact hj) = if j < i then markPr (k + preP l j) l[j] else l[j] := by
  simp [marksP, hj]
theorem marksP_zero (k : Int) (l : List Prob) : marksP k l 0 = l := by
  apply List.ext_getElem
  · rw [marksP_len]
  · intro j h1 h2
    rw [marksP_get h2, if_neg (by omega)]

structure RecB (base top : Nat) (own : Nat → Nat) (j : Nat) (w : World) (r : PRec) (q : Prob) : Prop where
  x : r.x = q.labels
  y : r.y = q.degree
  lab : I64 q.labels
  deg : I64 q.degree
  nodes : InB base top own (2 * j + 3) w r.z q.nodes
  edges : InB base top own (2 * j + 4) w r.u q.edges

structure OutPS (base top : Nat) (own : Nat → Nat) (w : World) (s : Sl) (l : List Prob) : Prop where
  ex : ∃ rs : List PRec, OwnL w base T.t_i_Problem s rs ∧ rs.length = l.length ∧ (∀ b, s.v.ownBlock = some b → own b = 2 ∧ b < top) ∧ ∀ j (h1 : j < rs.length) (h2 : j < l.length), RecB base top own j w rs[j] l[j]
  len : l.length ≤ 1048576

section
variable {base top : Nat} {own : Nat → Nat} {w w' : World} {s : Sl} {l : List Prob}

theorem RecB.keep {j : Nat} {r : PRec} {q : Prob} (h : RecB base top own j w r q) (hk : ∀ b, 2 < own b → base ≤ b → b < top → b < w.heap.size → w'.heap[b]? = w.heap[b]?) : RecB base top own j w' r q :=
  ⟨h.x, h.y, h.lab, h.deg, h.nodes.keep fun b hb => hk b (by omega), h.edges.keep fun b hb => hk b (by omega)⟩
theorem RecB.away {j : Nat} {r : PRec} {q : Prob} (h : RecB base top own j w r q) {D : Nat → Prop} (hC : Chg w w' D) (hd : ∀ b, 2 < own b → base ≤ b → b < top → ¬ D b) : RecB base top own j w' r q :=
  h.keep fun b h1 h2 h3 h4 => hC.block b h4 (hd b h1 h2 h3)
theorem RecB.ext {j : Nat} {r : PRec} {q : Prob} (h : RecB base top own j w r q) (hE : Ext w w') : RecB base top own j w' r q :=
  ⟨h.x, h.y, h.lab, h.deg, h.nodes.ext hE, h.edges.ext hE⟩
theorem RecB.grow {j : Nat} {r : PRec} {q : Prob} (h : RecB base top own j w r q) {own' : Nat → Nat} {t : Nat} (ho : ∀ b, base ≤ b → b < top → own' b = own b) (ht : top ≤ t) : RecB base t own' j w r q :=
  ⟨h.x, h.y, h.lab, h.deg, (h.nodes.reown fun b h1 _ h2 h3 => (ho b h1 h2).trans h3).upTo ht, (h.edges.reown fun b h1 _ h2 h3 => (ho b h1 h2).trans h3).upTo ht⟩
theorem OutPS.keep (h : OutPS base top own w s l) (hk : ∀ b, 2 ≤ own b → base ≤ b → b < top → b < w.heap.size → w'.heap[b]? = w.heap[b]?) : OutPS base top own w' s l := by
  obtain ⟨rs, hO, hl, hb, hr⟩ := h.ex
  exact ⟨⟨rs, hO.keep fun b hB => hk b (by have := (hb b hB).1; omega) (hO.blk b hB).1 (hb b hB).2 (hO.blk b hB).2, hl, hb, fun j h1 h2 => (hr j h1 h2).keep fun b hB => hk b (by omega)⟩, h.len⟩
theorem OutPS.away (h : OutPS base top own w s l) {D : Nat → Prop} (hC : Chg w w' D) (hd : ∀ b, 2 ≤ own b → base ≤ b → b < top → ¬ D b) : OutPS base top own w' s l :=
  h.keep fun b h1 h2 h3 h4 => hC.block b h4 (hd b h1 h2 h3)
theorem OutPS.grow (h : OutPS base top own w s l) {own' : Nat → Nat} {t : Nat} (ho : ∀ b, base ≤ b → b < top → own' b = own b) (ht : top ≤ t) : OutPS base t own' w s l := by
  obtain ⟨rs, hO, hl, hb, hr⟩ := h.ex
  exact ⟨⟨rs, hO, hl, fun b hB => ⟨(ho b (hO.blk b hB).1 (hb b hB).2).trans (hb b hB).1, by have := (hb b hB).2; omega⟩, fun j h1 h2 => (hr j h1 h2).grow ho ht⟩, h.len⟩
theorem OutPS.ext (h : OutPS base top own w s l) (hE : Ext w w') : OutPS base top own w' s l := h.away (Chg.of_ext (D := fun _ => False) hE) fun _ _ _ _ h => h
theorem OutPS.rep (h : OutPS base top own w s l) : R w s l := by
  obtain ⟨rs, hO, hl, hb, hr⟩ := h.ex
  exact (recs_rep (D := fun _ => True) hO hl (fun j h1 h2 => have hR := hr j h1 h2; ⟨hR.x, hR.y, hR.lab, hR.deg, hR.nodes.rep, hR.edges.rep⟩) (fun b hb => hb) fun b _ => trivial)

end
end Go.Proofs.YtaeledhbkdakcaaGreatDoor
end

section
/- Bounds as arguments, counted and copied: what is measured, and copies that lie apart. -/
namespace Go.Proofs.YtaeledhbkdakcaaGreatDoor
open Go.GX Go.RowKit
set_option maxRecDepth 100000

def totB (B : Bnd) : Nat := preP B.ps B.ps.length + pre B.maps B.maps.length + pre B.pairs B.pairs.length

/-! ### Copies whose rows lie apart -/

/-- A problem of the call's own, its lists one behind the other. -/
structure FreshP (lo mid hi : Nat) (w : World) (z u : Sl) (q : Prob) : Prop where
  nodes : InB lo mid (fun _ => 0) 0 w z q.nodes
  edges : InB mid hi (fun _ => 0) 0 w u q.edges
  lom : lo ≤ mid
  mhi : mid ≤ hi
  top : hi ≤ w.heap.size

theorem FreshP.ext {lo mid hi : Nat} {w w' : World} {z u : Sl} {q : Prob} (h : FreshP lo mid hi w z u q) (hE : Ext w w') : FreshP lo mid hi w' z u q :=
  ⟨h.nodes.ext hE, h.edges.ext hE, h.lom, h.mhi, Nat.le_trans h.top hE.size_le⟩
theorem FreshP.step {lo mid hi : Nat} {w w' : World} {z u : Sl} {q : Prob} {g : Option Nat} (h : FreshP lo mid hi w z u q) (hs : Step w w' g) (hg : ∀ k, g = some k → k < lo ∨ hi ≤ k) : FreshP lo mid hi w' z u q := by
  have hC : Chg w w' (fun k => g = some k) := Chg.of_step hs fun k hk => hk
  have h1 := h.lom
  have h2 := h.mhi
  exact ⟨h.nodes.away hC fun b _ hb ht he => (by have := hg b he; omega), h.edges.away hC fun b _ hb ht he => (by have := hg b he; omega), h.lom, h.mhi, Nat.le_trans h.top hs.size⟩
theorem FreshP.prob {lo mid hi : Nat} {w : World} {z u : Sl} {q : Prob} (h : FreshP lo mid hi w z u q) (h1 : I64 q.labels) (h2 : I64 q.degree) : RProb w z u q := ⟨h1, h2, h.nodes.rep, h.edges.rep⟩

/-! ### Lists of problems that are copied, or grow -/

structure OutB (base top : Nat) (w : World) (a b c : Sl) (B : Bnd) : Prop where
  ex : ∃ own, OutPS base top own w a B.ps ∧ InB base top own 0 w b B.maps ∧ InB base top own 1 w c B.pairs

section
variable {base top : Nat} {w w' : World} {a b c : Sl} {B : Bnd}
theorem OutB.bnd (h : OutB base top w a b c B) : RBnd w a b c B := by
  obtain ⟨own, h1, h2, h3⟩ := h.ex
  exact ⟨h1.rep, h2.rep, h3.rep⟩
theorem OutB.keep (h : OutB base top w a b c B) (hk : ∀ b, base ≤ b → b < top → b < w.heap.size → w'.heap[b]? = w.heap[b]?) : OutB base top w' a b c B := by
  obtain ⟨own, h1, h2, h3⟩ := h.ex
  exact ⟨own, h1.keep fun b _ => hk b, h2.keep fun b _ => hk b, h3.keep fun b _ => hk b⟩
theorem OutB.ext (h : OutB base top w a b c B) (hE : Ext w w') : OutB base top w' a b c B := h.keep fun _ _ _ h4 => hE.same h4
theorem OutB.low (h : OutB base top w a b c B) {l : Nat} (hl : l ≤ base) : OutB l top w a b c B := by
  obtain ⟨own, ⟨⟨rs, hO, h2, h3, h4⟩, h5⟩, hm, hp⟩ := h.ex
  exact ⟨own, ⟨⟨rs, hO.low hl, h2, h3, fun j k1 k2 => have hr := h4 j k1 k2; ⟨hr.x, hr.y, hr.lab, hr.deg, hr.nodes.low hl, hr.edges.low hl⟩⟩, h5⟩, hm.low hl, hp.low hl⟩
end

end Go.Proofs.YtaeledhbkdakcaaGreatDoor
end

section
/- Marks of bounds: on a copy and on an answer, whose blocks have owners. -/
namespace Go.Proofs.YtaeledhbkdakcaaGreatDoor
open Go.GX Go.RowKit
set_option maxRecDepth 100000

theorem marksP_set {k : Int} {l : List Prob} {i : Nat} (hi : i < l.length) : (marksP k l i).set i (markPr (k + preP l i) l[i]) = marksP k l (i + 1) := by
  apply List.ext_getElem
  · rw [List.length_set, marksP_len, marksP_len]
  · intro j h1 h2
    have hj : j < l.length := by rw [marksP_len] at h2; exact h2
    rw [List.getElem_set, marksP_get hj, marksP_get hj]
    by_cases he : i = j
    · subst he
      rw [if_pos rfl, if_pos (by omega)]
    · rw [if_neg he]
      by_cases hlt : j < i
      · rw [if_pos hlt, if_pos (by omega)]
      · rw [if_neg hlt, if_neg (by omega)]

/-- A record's cells in an owned list. -/
theorem rec_ix {w : World} {base : Nat} {e : TypeId} {s : Sl} {rs : List PRec} (h : OwnL w base e s rs) {i : Nat} (hi : i < rs.length) {K : Addr → Prop} (hk : ∀ p, (∀ j v, [Value.int .i64 rs[i].x, .int .i64 rs[i].y, rs[i].z.v, rs[i].u.v][j]? = some v → w.cell? (p.add j) = some v) → K p) : IX s i 4 K :=
  (h.rep (fun _ _ => trivial)).ix rfl (by omega) (by omega) fun p cs hr hc => hk p fun j v hv => hc j v (by
    have hr' : cs = [.int .i64 rs[i].x, .int .i64 rs[i].y, rs[i].z.v, rs[i].u.v] := hr
    rw [hr']; exact hv)

set_option maxHeartbeats 1000000 in
theorem markProblemS_own {base top : Nat} {own : Nat → Nat} {w : World} {s : Sl} {l : List Prob} (h : OutPS base top own w s l) (k : Int) (h0 : 0 ≤ k) (h1 : k + preP l l.length ≤ 1125899906842624) :
    Calls Tryz.prog F.l_markProblemS #[s.v, .int .i64 k] w (Ret [.at (.int .i64)] fun (r : Int) w' => r = k + preP l l.length ∧ OutPS base top own w' s (marksP k l l.length) ∧ Chg w w' (fun b => 2 ≤ own b ∧ base ≤ b ∧ b < top)) := by
  refine C_l_markProblemS ?_
  unfold V_l_markProblemS
  have hl20 := h.len
  have hsl : s.len = l.length := h.rep.len
  rw [hsl]
  refine ⟨IN2 l.length fun i (r : Int) w' => r = k + preP l i ∧ OutPS base top own w' s (marksP k l i) ∧ Chg w w' (fun b => 2 ≤ own b ∧ base ≤ b ∧ b < top), MN2 l.length, IN2_zero ⟨by simp [preP], by rw [marksP_zero]; exact h, Chg.refl _ _⟩, ?_⟩
  rintro _ _ w1 ⟨i, rfl, hi, rfl, hO1, hC1⟩
  intros
  refine cond_dec (fun hlt => ?_) (fun hge => ?_)
  · have hi' : i < l.length := by omega
    obtain ⟨rs, hO, hlen, hb, hr⟩ := hO1.ex
    have hml : (marksP k l i).length = l.length := marksP_len _ _ _
    have hir : i < rs.length := by omega
    have him : i < (marksP k l i).length := by omega
    have hcur : (marksP k l i)[i] = l[i] := by rw [marksP_get hi', if_neg (by omega)]
    have hR := hr i hir him
    rw [hcur] at hR
    have hps := preP_succ hi'
    have hpl := preP_le (l := l) (i := i + 1) (by omega)
    unfold szP at hps
    generalize hkk : k + (preP l i : Int) = kk at *
    have hkb : 0 ≤ kk ∧ kk + 2 + pre l[i].nodes l[i].nodes.length + pre l[i].edges l[i].edges.length ≤ 1125899906842624 := by omega
    refine IX_own hO hir rfl fun p hp => ?_
    refine ST_field hO hir hp (off := 0) (by decide) (v := .int .i64 kk) rfl ⟨kk, rs[i].y, rs[i].z, rs[i].u⟩ rfl fun w2 hO2 hs2 => ?_
    have hir2 : i < (rs.set i ⟨kk, rs[i].y, rs[i].z, rs[i].u⟩).length := by rw [List.length_set]; exact hir
    refine IX_own hO2 hir2 rfl fun p2 hp2 => ?_
    rw [wrap_of (n := kk + 1) (by omega) (by omega)]
    refine ST_field hO2 hir2 hp2 (off := 1) (by decide) (v := .int .i64 (kk + 1)) rfl ⟨kk, kk + 1, rs[i].z, rs[i].u⟩ (by rw [List.getElem_set_self]; rfl) fun w3 hO3 hs3 => ?_
    rw [List.set_set] at hO3
    have hir3 : i < (rs.set i ⟨kk, kk + 1, rs[i].z, rs[i].u⟩).length := by rw [List.length_set]; exact hir
    have hs13 := hs2.trans hs3
    have hC13 : Chg w1 w3 (oB s) := .of_step hs13 fun k hk => hk
    have hsb : ∀ b, oB s b → own b = 2 ∧ base ≤ b ∧ b < top := fun b hB => ⟨(hb b hB).1, (hO.blk b hB).1, (hb b hB).2⟩
    have hN3 := hR.nodes.away hC13 fun b h1 _ _ hD => by have := (hsb b hD).1; omega
    have hE3 := hR.edges.away hC13 fun b h1 _ _ hD => by have := (hsb b hD).1; omega
    refine rec_ix hO3 hir3 fun p3 hc3 => ?_
    rw [List.getElem_set_self] at hc3
    refine LD_sl (hc3 2 _ rfl) ?_
    rw [wrap_of (n := kk + 1 + 1) (by omega) (by omega)]
    have ek : kk + 1 + 1 = kk + 2 := by omega
    rw [ek]
    refine call (hN3.mark (kk + 2) (by omega) (by omega)) ?_
    rintro _ w4 ⟨rfl, hN4, hC4⟩
    have hO4 := hO3.keep fun b hB => hC4.block b (hO3.blk b hB).2 fun hD => by have := (hsb b hB).1; have := hD.1; omega
    have hE4 := hE3.away hC4 fun b h1 _ _ hD => by have := hD.1; omega
    refine rec_ix hO4 hir3 fun p4 hc4 => ?_
    rw [List.getElem_set_self] at hc4
    refine LD_sl (hc4 3 _ rfl) ?_
    refine call (hE4.mark (kk + 2 + pre l[i].nodes l[i].nodes.length) (by omega) (by omega)) ?_
    rintro _ w5 ⟨rfl, hE5, hC5⟩
    have hO5 := hO4.keep fun b hB => hC5.block b (hO4.blk b hB).2 fun hD => by have := (hsb b hB).1; have := hD.1; omega
    have hN5 := hN4.away hC5 fun b h1 _ _ hD => by have := hD.1; omega
    have hC15 : Chg w1 w5 (fun b => 2 ≤ own b ∧ base ≤ b ∧ b < top) := ((hC13.mono fun b hB => by have := hsb b hB; omega).trans (hC4.mono fun b hD => by have := hD.1; have := hD.2; omega)).trans (hC5.mono fun b hD => by have := hD.1; have := hD.2; omega)
    refine IN2_next (by omega) hi' ⟨by omega, ?_, hC1.trans hC15⟩
    rw [← marksP_set hi', hkk]
    refine ⟨⟨rs.set i ⟨kk, kk + 1, rs[i].z, rs[i].u⟩, hO5, by rw [List.length_set, List.length_set]; exact hlen, hb, fun j k1 k2 => ?_⟩, by rw [List.length_set]; omega⟩
    rw [List.getElem_set, List.getElem_set]
    by_cases he : i = j
    · subst he
      rw [if_pos rfl, if_pos rfl]
      exact ⟨rfl, rfl, (show I64 kk from ⟨by omega, by omega⟩), (show I64 (kk + 1) from ⟨by omega, by omega⟩), hN5, hE5⟩
    · rw [if_neg he, if_neg he]
      rw [List.length_set] at k1 k2
      have hj := hr j k1 k2
      have hC45 : Chg w3 w5 (fun b => own b = 2 * i + 3 ∨ own b = 2 * i + 4) := (hC4.mono fun b hD => .inl hD.1).trans (hC5.mono fun b hD => .inr hD.1)
      exact ⟨hj.x, hj.y, hj.lab, hj.deg, ((hj.nodes.away hC13 fun b h1 _ _ hD => by have := (hsb b hD).1; omega).away hC45 fun b h1 _ _ hD => by omega), ((hj.edges.away hC13 fun b h1 _ _ hD => by have := (hsb b hD).1; omega).away hC45 fun b h1 _ _ hD => by omega)⟩
  · have : i = l.length := by omega
    subst this
    exact ⟨rfl, hO1, hC1⟩

theorem heldProblemS_ok {w : World} {s : Sl} {l : List Prob} (k : Int) (h : R w s (marksP k l l.length)) (h0 : 0 ≤ k) (h1 : k + preP l l.length ≤ 1125899906842624) (hs : ∀ q ∈ l, (q.nodes.length ≤ 1048576 ∧ ∀ r ∈ q.nodes, r.length ≤ 1048576) ∧ q.edges.length ≤ 1048576 ∧ ∀ r ∈ q.edges, r.length ≤ 1048576) (hl20 : l.length ≤ 1048576) :
    Calls Tryz.prog F.l_heldProblemS #[s.v, .int .i64 k] w (Ret [.at (.int .i64)] fun (r : Int) w' => r = k + preP l l.length ∧ w = w') := by
  refine C_l_heldProblemS ?_
  unfold V_l_heldProblemS
  rw [h.len, marksP_len]
  refine ⟨IN2 l.length fun i (r : Int) w' => r = k + preP l i ∧ w = w', MN2 l.length, IN2_zero ⟨by simp [preP], rfl⟩, ?_⟩
  rintro _ _ w1 ⟨i, rfl, hi, rfl, rfl⟩
  intros
  refine cond_dec (fun hlt => ?_) (fun hge => ?_)
  · have hi' : i < l.length := by omega
    have him : i < (marksP k l l.length).length := by rw [marksP_len]; exact hi'
    have hcur : (marksP k l l.length)[i] = markPr (k + preP l i) l[i] := by rw [marksP_get hi', if_pos hi']
    have hps := preP_succ hi'
    have hpl := preP_le (l := l) (i := i + 1) (by omega)
    unfold szP at hps
    have hsm := hs _ (List.getElem_mem hi')
    have ix : ∀ {K : Addr → Prop}, (∀ p z u, RProb w z u (markPr (k + preP l i) l[i]) → PCells w p (markPr (k + preP l i) l[i]) z u → K p) → IX s i 4 K := fun hk => slr_ixP h him fun p z u hP hc => by
      rw [hcur] at hP hc
      exact hk p z u hP hc
    generalize hkk : k + (preP l i : Int) = kk at *
    have hkb : 0 ≤ kk ∧ kk + 2 + pre l[i].nodes l[i].nodes.length + pre l[i].edges l[i].edges.length ≤ 1125899906842624 := by omega
    refine ix fun p z u hP hc => LD_int (hc 0 _ rfl) ?_
    refine cond_ne (fun hne => absurd rfl hne) (fun _ => ?_)
    refine ix fun p2 z2 u2 hP2 hc2 => LD_int (hc2 1 _ rfl) ?_
    rw [wrap_of (n := kk + 1) (by omega) (by omega)]
    refine cond_ne (fun hne => absurd rfl hne) (fun _ => ?_)
    refine ix fun p3 z3 u3 hP3 hc3 => LD_sl (hc3 2 _ rfl) ?_
    rw [wrap_of (n := kk + 1 + 1) (by omega) (by omega)]
    have ek : kk + 1 + 1 = kk + 2 := by omega
    rw [ek]
    refine call (heldIntSS_ok (kk + 2) hP3.nodes (by omega) (by omega) (by have := hsm.1.1; omega) (fun r hr => by have := hsm.1.2 r hr; omega)) ?_
    rintro _ _ ⟨rfl, rfl⟩
    refine cond_df (by omega) ?_
    refine ix fun p4 z4 u4 hP4 hc4 => LD_sl (hc4 3 _ rfl) ?_
    refine call (heldIntSS_ok (kk + 2 + pre l[i].nodes l[i].nodes.length) hP4.edges (by omega) (by omega) (by have := hsm.2.1; omega) (fun r hr => by have := hsm.2.2 r hr; omega)) ?_
    rintro _ _ ⟨rfl, rfl⟩
    refine cond_df (by omega) ?_
    exact IN2_next (by omega) hi' ⟨by omega, rfl⟩
  · have : i = l.length := by omega
    subst this
    exact ⟨rfl, rfl⟩

structure MarkedB (w : World) (x y z : Sl) (B : Bnd) (k : Int) : Prop where
  ps : R w x (marksP k B.ps B.ps.length)
  maps : R w y (marks2 (k + preP B.ps B.ps.length) B.maps)
  pairs : R w z (marks2 (k + preP B.ps B.ps.length + pre B.maps B.maps.length) B.pairs)
  lo : 0 ≤ k
  hi : k ≤ 16777216
  tot : preP B.ps B.ps.length ≤ 16777216
  len : B.ps.length ≤ 1048576
  sm : ∀ q ∈ B.ps, (q.nodes.length ≤ 1048576 ∧ ∀ r ∈ q.nodes, r.length ≤ 1048576) ∧ q.edges.length ≤ 1048576 ∧ ∀ r ∈ q.edges, r.length ≤ 1048576
  mr : B.maps.length ≤ 1048576
  ms : ∀ r ∈ B.maps, r.length ≤ 1048576
  pr : B.pairs.length ≤ 1048576
  pc : ∀ r ∈ B.pairs, r.length ≤ 1048576
theorem MarkedB.ext {w w' : World} {x y z : Sl} {B : Bnd} {k : Int} (h : MarkedB w x y z B k) (hE : Ext w w') : MarkedB w' x y z B k :=
  ⟨h.ps.ext hE, h.maps.ext hE, h.pairs.ext hE, h.lo, h.hi, h.tot, h.len, h.sm, h.mr, h.ms, h.pr, h.pc⟩

theorem markB_out {base top : Nat} {w : World} {x y z : Sl} {B : Bnd} (h : OutB base top w x y z B) (ht : top ≤ w.heap.size) (hp : preP B.ps B.ps.length ≤ 16777216) (k : Int) (h0 : 0 ≤ k) (h1 : k ≤ 16777216) :
    Calls Tryz.prog F.l_markBound #[.agg #[x.v, y.v, z.v], .int .i64 k] w (Ret [.at (.int .i64)] fun (r : Int) w' => r = k + totB B ∧ MarkedB w' x y z B k ∧ Chg w w' (fun b => base ≤ b ∧ b < top)) := by
  refine C_l_markBound ?_
  unfold V_l_markBound
  refine NEW_intro fun pa w1 hp1 hs1 hE1 hb1 => LD_bs0 hb1 ?_
  obtain ⟨own, hP, hM, hR⟩ := (h.ext hE1).ex
  have hz1 := hE1.size_le
  have hab : ¬ (base ≤ pa.block ∧ pa.block < top) := by omega
  refine call (markProblemS_own hP k h0 (by omega)) ?_
  rintro _ w2 ⟨rfl, hP2, hC2⟩
  have hC2' : Chg w1 w2 (fun b => base ≤ b ∧ b < top) := hC2.mono fun b hD => hD.2
  have hM2 := hM.away hC2 fun b h1 _ _ hD => by have := hD.1; omega
  have hR2 := hR.away hC2 fun b h1 _ _ hD => by have := hD.1; omega
  have hpm := pre_le hM.small _ (Nat.le_refl _)
  have hrm := hM.rows
  refine LD_bs1 (hb1.chg hC2' hab) ?_
  refine call (hM2.mark _ (by omega) (by omega)) ?_
  rintro _ w3 ⟨rfl, hM3, hC3⟩
  have hC3' : Chg w2 w3 (fun b => base ≤ b ∧ b < top) := hC3.mono fun b hD => hD.2
  have hR3 := hR2.away hC3 fun b h1 _ _ hD => by have := hD.1; omega
  have hP3 := hP2.away hC3 fun b h1 _ _ hD => by have := hD.1; omega
  refine LD_bs2 ((hb1.chg hC2' hab).chg hC3' hab) ?_
  refine call (hR3.mark _ (by omega) (by omega)) ?_
  rintro _ w4 ⟨rfl, hR4, hC4⟩
  have hC4' : Chg w3 w4 (fun b => base ≤ b ∧ b < top) := hC4.mono fun b hD => hD.2
  have hP4 := hP3.away hC4 fun b h1 _ _ hD => by have := hD.1; omega
  have hM4 := hM3.away hC4 fun b h1 _ _ hD => by have := hD.1; omega
  obtain ⟨rs, _, hrl, _, hrr⟩ := hP.ex
  refine ⟨by unfold totB; omega, ⟨hP4.rep, hM4.rep, hR4.rep, h0, h1, hp, hP.len, fun q hq => ?_, hM.rows, hM.small, hR.rows, hR.small⟩, ((Chg.of_ext hE1).trans hC2').trans (hC3'.trans hC4')⟩
  obtain ⟨j, hj, rfl⟩ := List.mem_iff_getElem.1 hq
  have hj2 := hrr j (by omega) hj
  exact ⟨⟨hj2.nodes.rows, hj2.nodes.small⟩, hj2.edges.rows, hj2.edges.small⟩

theorem heldB_ok {w : World} {x y z : Sl} {B : Bnd} {k : Int} (h : MarkedB w x y z B k) :
    Calls Tryz.prog F.l_heldBound #[.agg #[x.v, y.v, z.v], .int .i64 k] w (Ret [.at (.int .i64)] fun (r : Int) w' => r = k + totB B ∧ Ext w w') := by
  refine C_l_heldBound ?_
  unfold V_l_heldBound
  refine NEW_intro fun pa w1 hp1 hs1 hE1 hb1 => LD_bs0 hb1 ?_
  have h' := h.ext hE1
  have h0 := h.lo
  have h1 := h.hi
  have ht := h.tot
  have hpm := pre_le h.ms _ (Nat.le_refl _)
  have hrm := h.mr
  refine call (heldProblemS_ok k h'.ps h0 (by omega) h.sm h.len) ?_
  rintro _ _ ⟨rfl, rfl⟩
  refine cond_df (by omega) (LD_bs1 hb1 ?_)
  refine call (heldIntSS_ok _ h'.maps (by omega) (by omega) h.mr h.ms) ?_
  rintro _ _ ⟨rfl, rfl⟩
  refine cond_df (by omega) (LD_bs2 hb1 ?_)
  refine call (heldIntSS_ok _ h'.pairs (by omega) (by omega) h.pr h.pc) ?_
  rintro _ _ ⟨rfl, rfl⟩
  refine cond_df (by omega) ⟨by unfold totB; omega, hE1⟩

end Go.Proofs.YtaeledhbkdakcaaGreatDoor
end

section
/- A bound that grows: rows and problems behind the others. -/
namespace Go.Proofs.YtaeledhbkdakcaaGreatDoor
open Go.GX Go.RowKit
set_option maxRecDepth 100000

theorem PGood.szLe {q : Prob} (h : PGood q) : szP q ≤ 1700 := by
  have h1 := h.count
  have h2 := h.deg
  have key : ∀ (L : List (List Int)) (s n : Int), ConfOk L s n → s ≤ 4 → pre L L.length ≤ 4 * L.length := by
    intro L s n hc hs
    have : ∀ i, i ≤ L.length → pre L i ≤ 4 * i := by
      intro i
      induction i with
      | zero => intro _; simp [pre]
      | succ i ih =>
        intro hi
        have h3 := ih (by omega)
        have h4 := (hc.row i hi).1
        rw [pre_succ hi]; omega
    exact this _ (Nat.le_refl _)
  have h3 := key _ _ _ h.nodes h2.2
  have h4 := key _ _ _ h.edges (by omega)
  unfold szP; omega
theorem good_pre {B : Bnd} (hp : PsOk B.ps) : preP B.ps B.ps.length ≤ 16777216 := by
  have key : ∀ i, i ≤ B.ps.length → preP B.ps i ≤ 1700 * i := by
    intro i
    induction i with
    | zero => intro _; simp [preP]
    | succ i ih =>
      intro hi
      have h1 := ih (by omega)
      have h2 := (hp.2 _ (List.getElem_mem (show i < B.ps.length by omega))).1.szLe
      rw [preP_succ hi]; omega
  have := key _ (Nat.le_refl _)
  have := hp.1
  omega

/-! ### Owners -/

def upO (own : Nat → Nat) (top i : Nat) : Nat → Nat := fun b => if b < top then own b else i
theorem upO_lt {own : Nat → Nat} {top i b : Nat} (h : b < top) : upO own top i b = own b := if_pos h
theorem upO_ge {own : Nat → Nat} {top i b : Nat} (h : ¬ b < top) : upO own top i b = i := if_neg h

section
variable {base top : Nat} {own : Nat → Nat} {i j : Nat} {w w' : World} {s : Sl} {L : List (List Int)}

theorem InB.move (h : InB base top own j w s L) (hC : Chg w w' (fun b => own b = i ∧ base ≤ b ∧ b < top)) (hij : j ≠ i) {t k : Nat} (ht : top ≤ t) : InB base t (upO own top k) j w' s L :=
  ((h.away hC fun b h1 _ _ hD => hij (h1.symm.trans hD.1)).reown fun b _ _ h3 h4 => (upO_lt h3).trans h4).upTo ht

theorem InB.push1 (h : InB base top own i w s L) (hb : base ≤ top) (ht : top ≤ w.heap.size) {b1 : Nat} (hb1 : top ≤ b1) {r : Sl} {ns : List Int} (hr : OwnL w b1 T.t_int r ns) (hn : ∀ y ∈ ns, I64 y) (hl : L.length < 1048576) (hnl : ns.length ≤ 1048576) {K : Sl → World → Prop}
    (hk : ∀ s' w', InB base w'.heap.size (upO own top i) i w' s' (L ++ [ns]) → Chg w w' (fun b => own b = i ∧ base ≤ b ∧ b < top) → K s' w') {y : Sl} {w1 : World} (hE1 : Ext w w1) (hO1 : OwnL w1 w.heap.size T.t_sl_int y [r]) :
    RUN Tryz.prog (.at .sl) (bsem .append #[T.t_sl_sl_int, T.t_sl_sl_int] T.t_sl_sl_int #[s.v, y.v]) w1 K := by
  obtain ⟨ss, hM, hB⟩ := h.ex
  have hz1 := hE1.size_le
  have hM1 := hM.ext hE1
  refine RUN_append_rowDF slt_rows (by decide) hM1 (by omega) ((hr.ext hE1).low (by omega)) (fun j q hq k hk hrk => ?_) hO1 (by omega) (by unfold maxLen; omega) fun s' w' hM' hs' hN => ?_
  · have h1 := (hB k (.inr ⟨q, List.mem_of_getElem? hq, hk⟩)).2
    have h2 := (hr.blk k hrk).1
    omega
  · have hC : Chg w w' (fun b => own b = i ∧ base ≤ b ∧ b < top) := (Chg.of_ext hE1).trans (Chg.of_step hs' fun k hk => ⟨(hB k (.inl hk)).1, (hM.own.blk k hk).1, (hB k (.inl hk)).2⟩)
    refine hk s' w' ⟨⟨ss ++ [r], hM', fun b hb' => ⟨?_, (hM'.blk hb').2⟩⟩, ?_, ?_, ?_⟩ hC
    · by_cases hbt : b < top
      · rw [upO_lt hbt]
        rcases hb' with hb' | ⟨q, hq, hb'⟩
        · rcases hN with hN | hN
          · rw [hN] at hb'; exact (hB b (.inl hb')).1
          · have := hN b hb'; omega
        · rcases List.mem_append.1 hq with hq | hq
          · exact (hB b (.inr ⟨q, hq, hb'⟩)).1
          · rw [List.mem_singleton.1 hq] at hb'
            have := (hr.blk b hb').1; omega
      · exact upO_ge hbt
    · intro q hq
      rcases List.mem_append.1 hq with hq | hq
      · exact h.i64 q hq
      · rw [List.mem_singleton.1 hq]; exact hn
    · rw [List.length_append, List.length_singleton]; omega
    · intro q hq
      rcases List.mem_append.1 hq with hq | hq
      · exact h.small q hq
      · rw [List.mem_singleton.1 hq]; exact hnl

theorem InB.push (h : InB base top own i w s L) (hb : base ≤ top) (ht : top ≤ w.heap.size) {b1 : Nat} (hb1 : top ≤ b1) {r : Sl} {ns : List Int} (hr : OwnL w b1 T.t_int r ns) (hn : ∀ y ∈ ns, I64 y) (hl : L.length < 1048576) (hnl : ns.length ≤ 1048576) {K : Sl → World → Prop}
    (hk : ∀ s' w', InB base w'.heap.size (upO own top i) i w' s' (L ++ [ns]) → Chg w w' (fun b => own b = i ∧ base ≤ b ∧ b < top) → K s' w') :
    RUN Tryz.prog (.at .sl) (Instr.buildSlice T.t_sl_sl_int 1 #[(0, r.v)]) w fun y w1 => RUN Tryz.prog (.at .sl) (bsem .append #[T.t_sl_sl_int, T.t_sl_sl_int] T.t_sl_sl_int #[s.v, y.v]) w1 K :=
  RUN_lit1 (α := Sl) slt_rows r rfl (by decide) fun _ _ hE1 hO1 => h.push1 hb ht hb1 hr hn hl hnl hk hE1 hO1
end

/-! ### A bound -/

section
variable {base top : Nat} {w w' : World} {x y z : Sl} {B : Bnd}

theorem OutPS.move {own : Nat → Nat} {i : Nat} {l : List Prob} (h : OutPS base top own w x l) (hC : Chg w w' (fun b => own b = i ∧ base ≤ b ∧ b < top)) (hi : i < 2) {t k : Nat} (ht : top ≤ t) : OutPS base t (upO own top k) w' x l :=
  (h.away hC fun b h1 _ _ hD => by have := hD.1; omega).grow (fun b _ h2 => upO_lt h2) ht

theorem OutB.pushM1 (h : OutB base top w x y z B) (hb : base ≤ top) (ht : top ≤ w.heap.size) {b1 : Nat} (hb1 : top ≤ b1) {r : Sl} {ns : List Int} (hr : OwnL w b1 T.t_int r ns) (hn : ∀ y ∈ ns, I64 y) (hl : B.maps.length < 1048576) (hnl : ns.length ≤ 1048576) {K : Sl → World → Prop}
    (hk : ∀ s' w', OutB base w'.heap.size w' x s' z ⟨B.ps, B.maps ++ [ns], B.pairs⟩ → Chg w w' (fun b => base ≤ b ∧ b < top) → K s' w') {y0 : Sl} {w1 : World} (hE1 : Ext w w1) (hO1 : OwnL w1 w.heap.size T.t_sl_int y0 [r]) :
    RUN Tryz.prog (.at .sl) (bsem .append #[T.t_sl_sl_int, T.t_sl_sl_int] T.t_sl_sl_int #[y.v, y0.v]) w1 K := by
  obtain ⟨own, h1, h2, h3⟩ := h.ex
  refine h2.push1 hb ht hb1 hr hn hl hnl (fun s' w' hI hC => ?_) hE1 hO1
  have ht' : top ≤ w'.heap.size := Nat.le_trans ht hC.size
  exact hk s' w' ⟨_, h1.move hC (by omega) ht', hI, h3.move hC (by omega) ht'⟩ (hC.mono fun b hD => hD.2)
theorem OutB.pushM (h : OutB base top w x y z B) (hb : base ≤ top) (ht : top ≤ w.heap.size) {b1 : Nat} (hb1 : top ≤ b1) {r : Sl} {ns : List Int} (hr : OwnL w b1 T.t_int r ns) (hn : ∀ y ∈ ns, I64 y) (hl : B.maps.length < 1048576) (hnl : ns.length ≤ 1048576) {K : Sl → World → Prop}
    (hk : ∀ s' w', OutB base w'.heap.size w' x s' z ⟨B.ps, B.maps ++ [ns], B.pairs⟩ → Chg w w' (fun b => base ≤ b ∧ b < top) → K s' w') :
    RUN Tryz.prog (.at .sl) (Instr.buildSlice T.t_sl_sl_int 1 #[(0, r.v)]) w fun y0 w1 => RUN Tryz.prog (.at .sl) (bsem .append #[T.t_sl_sl_int, T.t_sl_sl_int] T.t_sl_sl_int #[y.v, y0.v]) w1 K := by
  obtain ⟨own, h1, h2, h3⟩ := h.ex
  refine h2.push hb ht hb1 hr hn hl hnl fun s' w' hI hC => ?_
  have ht' : top ≤ w'.heap.size := Nat.le_trans ht hC.size
  exact hk s' w' ⟨_, h1.move hC (by omega) ht', hI, h3.move hC (by omega) ht'⟩ (hC.mono fun b hD => hD.2)
theorem OutB.pushP1 (h : OutB base top w x y z B) (hb : base ≤ top) (ht : top ≤ w.heap.size) {b1 : Nat} (hb1 : top ≤ b1) {r : Sl} {ns : List Int} (hr : OwnL w b1 T.t_int r ns) (hn : ∀ y ∈ ns, I64 y) (hl : B.pairs.length < 1048576) (hnl : ns.length ≤ 1048576) {K : Sl → World → Prop}
    (hk : ∀ s' w', OutB base w'.heap.size w' x y s' ⟨B.ps, B.maps, B.pairs ++ [ns]⟩ → Chg w w' (fun b => base ≤ b ∧ b < top) → K s' w') {y0 : Sl} {w1 : World} (hE1 : Ext w w1) (hO1 : OwnL w1 w.heap.size T.t_sl_int y0 [r]) :
    RUN Tryz.prog (.at .sl) (bsem .append #[T.t_sl_sl_int, T.t_sl_sl_int] T.t_sl_sl_int #[z.v, y0.v]) w1 K := by
  obtain ⟨own, h1, h2, h3⟩ := h.ex
  refine h3.push1 hb ht hb1 hr hn hl hnl (fun s' w' hI hC => ?_) hE1 hO1
  have ht' : top ≤ w'.heap.size := Nat.le_trans ht hC.size
  exact hk s' w' ⟨_, h1.move hC (by omega) ht', h2.move hC (by omega) ht', hI⟩ (hC.mono fun b hD => hD.2)

theorem OutB.pushP (h : OutB base top w x y z B) (hb : base ≤ top) (ht : top ≤ w.heap.size) {b1 : Nat} (hb1 : top ≤ b1) {r : Sl} {ns : List Int} (hr : OwnL w b1 T.t_int r ns) (hn : ∀ y ∈ ns, I64 y) (hl : B.pairs.length < 1048576) (hnl : ns.length ≤ 1048576) {K : Sl → World → Prop}
    (hk : ∀ s' w', OutB base w'.heap.size w' x y s' ⟨B.ps, B.maps, B.pairs ++ [ns]⟩ → Chg w w' (fun b => base ≤ b ∧ b < top) → K s' w') :
    RUN Tryz.prog (.at .sl) (Instr.buildSlice T.t_sl_sl_int 1 #[(0, r.v)]) w fun y0 w1 => RUN Tryz.prog (.at .sl) (bsem .append #[T.t_sl_sl_int, T.t_sl_sl_int] T.t_sl_sl_int #[z.v, y0.v]) w1 K := by
  obtain ⟨own, h1, h2, h3⟩ := h.ex
  refine h3.push hb ht hb1 hr hn hl hnl fun s' w' hI hC => ?_
  have ht' : top ≤ w'.heap.size := Nat.le_trans ht hC.size
  exact hk s' w' ⟨_, h1.move hC (by omega) ht', h2.move hC (by omega) ht', hI⟩ (hC.mono fun b hD => hD.2)

/-- The cells of a record whose place is known. -/
theorem plc_cells {α : Type} [Flat α] {e : TypeId} {s : Sl} {rs : List α} (h : OwnL w base e s rs) {i : Nat} (hi : i < rs.length) {p : Addr} (hp : Plc s i (Rep.sz α) p) (hok : ∀ r ∈ rs, Flat.ok r) : ∀ j v, (Flat.cells rs[i])[j]? = some v → w.cell? (p.add j) = some v := by
  obtain ⟨a, ha, rfl⟩ := hp
  obtain ⟨a', cs, ha', _, hrep, hc⟩ := (h.rep hok).2.2 i rs[i] (by simp [hi])
  rw [ha] at ha'; cases ha'
  have := (Flat.ofRep hrep).1
  rw [this] at hc
  intro j v hv
  rw [add_add]
  exact hc j v hv

/-- A problem behind the others. -/
theorem OutB.pushQ1 (h : OutB base top w x y z B) (hb : base ≤ top) {bq tq : Nat} {ownq : Nat → Nat} {r : PRec} {q : Prob} (hq : RecB bq tq ownq 0 w r q) (hbq : top ≤ bq) (htb : bq ≤ tq) (htq : tq ≤ w.heap.size) (hl : B.ps.length < 1048576) {K : Sl → World → Prop}
    (hk : ∀ s' w', OutB base w'.heap.size w' s' y z ⟨B.ps ++ [q], B.maps, B.pairs⟩ → Chg w w' (fun b => base ≤ b ∧ b < top) → K s' w') {y0 : Sl} {w1 : World} (hE1 : Ext w w1) (hO1 : OwnL w1 w.heap.size T.t_i_Problem y0 [r]) :
    RUN Tryz.prog (.at .sl) (bsem .append #[T.t_sl_i_Problem, T.t_sl_i_Problem] T.t_sl_i_Problem #[x.v, y0.v]) w1 K := by
  obtain ⟨own, h1, h2, h3⟩ := h.ex
  obtain ⟨rs, hO, hrl, hB, hR⟩ := h1.ex
  have hz1 := hE1.size_le
  have hOx := hO.ext hE1
  refine RUN_appendF (α := PRec) slt_prob hOx (by omega) (hO1.rep (by intro _ _; trivial)).any (by simp; omega) (by simp [maxLen]; omega) fun s' w' hO' hs' hN => ?_
  let own' : Nat → Nat := fun b => if b < top then own b else if b < tq ∧ ownq b = 3 then 2 * B.ps.length + 3 else if b < tq ∧ ownq b = 4 then 2 * B.ps.length + 4 else 2
  have hC : Chg w w' (fun b => own b = 2 ∧ base ≤ b ∧ b < top) := (Chg.of_ext hE1).trans (Chg.of_step hs' fun k hk => ⟨(hB k hk).1, (hO.blk k hk).1, (hB k hk).2⟩)
  have ht' : w1.heap.size ≤ w'.heap.size := hs'.size
  have o1 : ∀ b, b < top → own' b = own b := fun b hb => if_pos hb
  refine hk s' w' ⟨own', ⟨⟨rs ++ [r], hO', by simp [hrl], fun b hb' => ⟨?_, (hO'.blk b hb').2⟩, fun j k1 k2 => ?_⟩, by rw [List.length_append, List.length_singleton]; omega⟩, ?_, ?_⟩ (hC.mono fun b hD => hD.2)
  · rcases hN with hN | hN
    · rw [hN] at hb'
      rw [o1 b (hB b hb').2]; exact (hB b hb').1
    · have := hN b hb'
      show (if b < top then own b else if b < tq ∧ ownq b = 3 then 2 * B.ps.length + 3 else if b < tq ∧ ownq b = 4 then 2 * B.ps.length + 4 else 2) = 2
      rw [if_neg (by omega), if_neg (by omega), if_neg (by omega)]
  · by_cases hj : j < rs.length
    · have hj2 : j < B.ps.length := by omega
      rw [List.getElem_append_left hj, List.getElem_append_left hj2]
      exact ((hR j hj hj2).away hC fun b h1 _ _ hD => by have := hD.1; omega).grow (fun b _ h2 => o1 b h2) (by omega)
    · rw [List.length_append, List.length_singleton] at k1 k2
      have hj2 : j = B.ps.length := by omega
      subst hj2
      have e1 : (rs ++ [r])[B.ps.length]'(by simp; omega) = r := by rw [List.getElem_append_right (by omega)]; simp
      have e2 : (B.ps ++ [q])[B.ps.length]'(by simp) = q := by rw [List.getElem_append_right (by omega)]; simp
      rw [e1, e2]
      have hq' := hq.away hC fun b h1 h2 h3 hD => by have := hD.2.2; omega
      have oq : ∀ b, bq ≤ b → b < tq → (ownq b = 3 → own' b = 2 * B.ps.length + 3) ∧ (ownq b = 4 → own' b = 2 * B.ps.length + 4) := fun b hb1 hb2 => by
        show (_ → (if b < top then own b else if b < tq ∧ ownq b = 3 then 2 * B.ps.length + 3 else if b < tq ∧ ownq b = 4 then 2 * B.ps.length + 4 else 2) = _) ∧ (_ → (if b < top then own b else if b < tq ∧ ownq b = 3 then 2 * B.ps.length + 3 else if b < tq ∧ ownq b = 4 then 2 * B.ps.length + 4 else 2) = _)
        rw [if_neg (by omega)]
        refine ⟨fun he => by rw [if_pos ⟨hb2, he⟩], fun he => by rw [if_neg (by omega), if_pos ⟨hb2, he⟩]⟩
      exact ⟨hq'.x, hq'.y, hq'.lab, hq'.deg,
        ((hq'.nodes.reown fun b k1 _ k3 k4 => (oq b k1 k3).1 (by omega)).upTo (by omega)).low (by omega),
        ((hq'.edges.reown fun b k1 _ k3 k4 => (oq b k1 k3).2 (by omega)).upTo (by omega)).low (by omega)⟩
  · exact ((h2.away hC fun b k1 _ _ hD => by have := hD.1; omega).reown fun b _ _ k3 k4 => (o1 b k3).trans k4).upTo (by omega)
  · exact ((h3.away hC fun b k1 _ _ hD => by have := hD.1; omega).reown fun b _ _ k3 k4 => (o1 b k3).trans k4).upTo (by omega)

theorem OutB.pushQ (h : OutB base top w x y z B) (hb : base ≤ top) {bq tq : Nat} {ownq : Nat → Nat} {r : PRec} {q : Prob} (hq : RecB bq tq ownq 0 w r q) (hbq : top ≤ bq) (htb : bq ≤ tq) (htq : tq ≤ w.heap.size) (hl : B.ps.length < 1048576) {K : Sl → World → Prop}
    (hk : ∀ s' w', OutB base w'.heap.size w' s' y z ⟨B.ps ++ [q], B.maps, B.pairs⟩ → Chg w w' (fun b => base ≤ b ∧ b < top) → K s' w') :
    RUN Tryz.prog (.at .sl) (Instr.buildSlice T.t_sl_i_Problem 1 #[(0, .agg #[.int .i64 r.x, .int .i64 r.y, r.z.v, r.u.v])]) w fun y0 w1 => RUN Tryz.prog (.at .sl) (bsem .append #[T.t_sl_i_Problem, T.t_sl_i_Problem] T.t_sl_i_Problem #[x.v, y0.v]) w1 K :=
  RUN_lit1 (α := PRec) slt_prob r rfl (by decide) fun _ _ hE1 hO1 => h.pushQ1 hb hq hbq htb htq hl hk hE1 hO1

theorem onLast_eq {l : List Prob} (f : Prob → Prob) (h : l.length - 1 < l.length) : onLast l f = l.set (l.length - 1) (f l[l.length - 1]) := by
  unfold onLast
  rw [List.getD_eq_getElem?_getD, List.getElem?_eq_getElem h]; rfl

/-- A row more of the last problem. -/
theorem OutB.pushN (h : OutB base top w x y z B) (hb : base ≤ top) (ht : top ≤ w.heap.size) {b1 : Nat} (hb1 : top ≤ b1) {r : Sl} {ns : List Int} (hr : OwnL w b1 T.t_int r ns) (hn : ∀ y ∈ ns, I64 y) (hps : B.ps.length - 1 < B.ps.length) (hl : (B.ps[B.ps.length - 1]).nodes.length < 1048576) (hnl : ns.length ≤ 1048576)
    {p : Addr} (hp : Plc x (B.ps.length - 1) 4 p) {K : World → Prop}
    (hk : ∀ w', OutB base w'.heap.size w' x y z ⟨onLast B.ps (addN ns), B.maps, B.pairs⟩ → Chg w w' (fun b => base ≤ b ∧ b < top) → K w') :
    LD [.sl] (p.add 2) w fun c => RUN Tryz.prog (.at .sl) (Instr.buildSlice T.t_sl_sl_int 1 #[(0, r.v)]) w fun y0 w1 => RUN Tryz.prog (.at .sl) (bsem .append #[T.t_sl_sl_int, T.t_sl_sl_int] T.t_sl_sl_int #[c.v, y0.v]) w1 fun c' w2 => GX.ST (p.add 2) 0 [c'.v] w2 K := by
  obtain ⟨own, h1, h2, h3⟩ := h.ex
  obtain ⟨rs, hO, hrl, hB, hR⟩ := h1.ex
  have hir : B.ps.length - 1 < rs.length := by omega
  have hRj := hR _ hir hps
  refine LD_sl (s := rs[B.ps.length - 1].z) (plc_cells hO hir hp (fun _ _ => trivial) 2 _ rfl) ?_
  refine hRj.nodes.push hb ht hb1 hr hn hl hnl fun c' w2 hI hC => ?_
  have ht2 : top ≤ w2.heap.size := Nat.le_trans ht hC.size
  have hO2 : OwnL w2 base T.t_i_Problem x rs := hO.keep fun b hb' => hC.block b (hO.blk b hb').2 fun hD => by have := hD.1; have := (hB b hb').1; omega
  refine ST_field hO2 hir hp (off := 2) (by decide) (v := c'.v) rfl ⟨rs[B.ps.length - 1].x, rs[B.ps.length - 1].y, c', rs[B.ps.length - 1].u⟩ rfl fun w3 hO3 hs3 => ?_
  have hz3 : w2.heap.size ≤ w3.heap.size := hs3.size
  have hC3 : Chg w2 w3 (oB x) := .of_step hs3 fun k hk => hk
  have hxb : ∀ b, oB x b → own b = 2 ∧ b < top := fun b hb' => hB b hb'
  have hlen : (onLast B.ps (addN ns)).length = B.ps.length := by unfold onLast; rw [List.length_set]
  have up : ∀ {k : Nat} {s : Sl} {L : List (List Int)}, InB base top own k w s L → k ≠ 2 → k ≠ 2 * (B.ps.length - 1) + 3 → InB base w3.heap.size (upO own top (2 * (B.ps.length - 1) + 3)) k w3 s L := fun hin hk2 hkj =>
    ((hin.move hC hkj ht2).away hC3 fun b e1 _ _ hD => by
      have := hxb b hD
      rw [upO_lt this.2] at e1; omega).upTo hz3
  have hI' : InB base w3.heap.size (upO own top (2 * (B.ps.length - 1) + 3)) (2 * (B.ps.length - 1) + 3) w3 c' ((B.ps[B.ps.length - 1]).nodes ++ [ns]) := (hI.away hC3 fun b e1 _ _ hD => by
      have := hxb b hD
      rw [upO_lt this.2] at e1; omega).upTo hz3
  have hoth := up hRj.edges (by omega) (by omega)
  refine hk w3 ⟨upO own top (2 * (B.ps.length - 1) + 3), ⟨⟨_, hO3, by rw [List.length_set, hlen]; exact hrl, fun b hb' => ⟨by rw [upO_lt (hB b hb').2]; exact (hB b hb').1, by have := (hB b hb').2; omega⟩, fun j k1 k2 => ?_⟩, by rw [hlen]; exact h1.len⟩, up h2 (by omega) (by omega), up h3 (by omega) (by omega)⟩ ((hC.mono fun b hD => hD.2).trans (hC3.mono fun b hD => ⟨(hO.blk b hD).1, (hxb b hD).2⟩))
  rw [hlen] at k2
  simp only [onLast_eq _ hps]
  rw [List.getElem_set, List.getElem_set]
  by_cases hj : B.ps.length - 1 = j
  · subst hj
    rw [if_pos rfl, if_pos rfl]
    exact ⟨hRj.x, hRj.y, hRj.lab, hRj.deg, hI', hoth⟩
  · rw [if_neg hj, if_neg hj]
    rw [List.length_set] at k1
    have hq := hR j k1 k2
    exact ⟨hq.x, hq.y, hq.lab, hq.deg, up hq.nodes (by omega) (by omega), up hq.edges (by omega) (by omega)⟩

/-- A row more of the last problem. -/
theorem OutB.pushE (h : OutB base top w x y z B) (hb : base ≤ top) (ht : top ≤ w.heap.size) {b1 : Nat} (hb1 : top ≤ b1) {r : Sl} {ns : List Int} (hr : OwnL w b1 T.t_int r ns) (hn : ∀ y ∈ ns, I64 y) (hps : B.ps.length - 1 < B.ps.length) (hl : (B.ps[B.ps.length - 1]).edges.length < 1048576) (hnl : ns.length ≤ 1048576)
    {p : Addr} (hp : Plc x (B.ps.length - 1) 4 p) {K : World → Prop}
    (hk : ∀ w', OutB base w'.heap.size w' x y z ⟨onLast B.ps (addE ns), B.maps, B.pairs⟩ → Chg w w' (fun b => base ≤ b ∧ b < top) → K w') :
    LD [.sl] (p.add 3) w fun c => RUN Tryz.prog (.at .sl) (Instr.buildSlice T.t_sl_sl_int 1 #[(0, r.v)]) w fun y0 w1 => RUN Tryz.prog (.at .sl) (bsem .append #[T.t_sl_sl_int, T.t_sl_sl_int] T.t_sl_sl_int #[c.v, y0.v]) w1 fun c' w2 => GX.ST (p.add 3) 0 [c'.v] w2 K := by
  obtain ⟨own, h1, h2, h3⟩ := h.ex
  obtain ⟨rs, hO, hrl, hB, hR⟩ := h1.ex
  have hir : B.ps.length - 1 < rs.length := by omega
  have hRj := hR _ hir hps
  refine LD_sl (s := rs[B.ps.length - 1].u) (plc_cells hO hir hp (fun _ _ => trivial) 3 _ rfl) ?_
  refine hRj.edges.push hb ht hb1 hr hn hl hnl fun c' w2 hI hC => ?_
  have ht2 : top ≤ w2.heap.size := Nat.le_trans ht hC.size
  have hO2 : OwnL w2 base T.t_i_Problem x rs := hO.keep fun b hb' => hC.block b (hO.blk b hb').2 fun hD => by have := hD.1; have := (hB b hb').1; omega
  refine ST_field hO2 hir hp (off := 3) (by decide) (v := c'.v) rfl ⟨rs[B.ps.length - 1].x, rs[B.ps.length - 1].y, rs[B.ps.length - 1].z, c'⟩ rfl fun w3 hO3 hs3 => ?_
  have hz3 : w2.heap.size ≤ w3.heap.size := hs3.size
  have hC3 : Chg w2 w3 (oB x) := .of_step hs3 fun k hk => hk
  have hxb : ∀ b, oB x b → own b = 2 ∧ b < top := fun b hb' => hB b hb'
  have hlen : (onLast B.ps (addE ns)).length = B.ps.length := by unfold onLast; rw [List.length_set]
  have up : ∀ {k : Nat} {s : Sl} {L : List (List Int)}, InB base top own k w s L → k ≠ 2 → k ≠ 2 * (B.ps.length - 1) + 4 → InB base w3.heap.size (upO own top (2 * (B.ps.length - 1) + 4)) k w3 s L := fun hin hk2 hkj =>
    ((hin.move hC hkj ht2).away hC3 fun b e1 _ _ hD => by
      have := hxb b hD
      rw [upO_lt this.2] at e1; omega).upTo hz3
  have hI' : InB base w3.heap.size (upO own top (2 * (B.ps.length - 1) + 4)) (2 * (B.ps.length - 1) + 4) w3 c' ((B.ps[B.ps.length - 1]).edges ++ [ns]) := (hI.away hC3 fun b e1 _ _ hD => by
      have := hxb b hD
      rw [upO_lt this.2] at e1; omega).upTo hz3
  have hoth := up hRj.nodes (by omega) (by omega)
  refine hk w3 ⟨upO own top (2 * (B.ps.length - 1) + 4), ⟨⟨_, hO3, by rw [List.length_set, hlen]; exact hrl, fun b hb' => ⟨by rw [upO_lt (hB b hb').2]; exact (hB b hb').1, by have := (hB b hb').2; omega⟩, fun j k1 k2 => ?_⟩, by rw [hlen]; exact h1.len⟩, up h2 (by omega) (by omega), up h3 (by omega) (by omega)⟩ ((hC.mono fun b hD => hD.2).trans (hC3.mono fun b hD => ⟨(hO.blk b hD).1, (hxb b hD).2⟩))
  rw [hlen] at k2
  simp only [onLast_eq _ hps]
  rw [List.getElem_set, List.getElem_set]
  by_cases hj : B.ps.length - 1 = j
  · subst hj
    rw [if_pos rfl, if_pos rfl]
    exact ⟨hRj.x, hRj.y, hRj.lab, hRj.deg, hoth, hI'⟩
  · rw [if_neg hj, if_neg hj]
    rw [List.length_set] at k1
    have hq := hR j k1 k2
    exact ⟨hq.x, hq.y, hq.lab, hq.deg, up hq.nodes (by omega) (by omega), up hq.edges (by omega) (by omega)⟩
end
end Go.Proofs.YtaeledhbkdakcaaGreatDoor
end

section
/- Texts of rooted problems read: both sides. -/
namespace Go.Proofs.YtaeledhbkdakcaaGreatDoor
open Go.GX Go.RowKit
set_option maxRecDepth 100000

/-- What reading a text answers. -/
structure PaAns (l : List UInt8) (q : RPr) (ok : Bool) : Prop where
  yes : ok = true → RoGood q ∧ roTextS q = l
  no : ok = false → q = ⟨0, 0, []⟩ ∧ ∀ p, RoGood p → roTextS p ≠ l
theorem PaAns.eq {l : List UInt8} {p q : RPr} {a b : Bool} (h : PaAns l p a) (h' : PaAns l q b) : p = q ∧ a = b := by
  cases a with
  | true =>
    obtain ⟨h1, h2⟩ := h.yes rfl
    cases b with
    | true => obtain ⟨h3, h4⟩ := h'.yes rfl; exact ⟨roText_inj h1 h3 (h2.trans h4.symm), rfl⟩
    | false => exact absurd h2 ((h'.no rfl).2 p h1)
  | false =>
    cases b with
    | true => obtain ⟨h3, h4⟩ := h'.yes rfl; exact absurd h4 ((h.no rfl).2 q h3)
    | false => exact ⟨(h.no rfl).1.trans (h'.no rfl).1.symm, rfl⟩

end Go.Proofs.YtaeledhbkdakcaaGreatDoor
end
