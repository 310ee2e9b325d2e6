/- Own texts, merged: Elim5, ElimN, Stable, Dist, Far, Dom, ConfMapPure, ConfMap, Pull1, Pull2, PullN0, PullN, Endless, BoundIn, BoundArg, BoundOk, BoundRight, BoundS, BoundOpen, TxtPure, Txt, TxtRead, TxtL, TxtLib, TxtLine, Mask, WalkPure, RootPure, WalkI1, WalkI2, WalkI3, RowsR, WalkI4, WalkS1, WalkS2, WalkS3, WalkS4, WalkS5, RootI1, ParseRo, TxtRows, BoundTxt. -/
import Derived.Test.YtnhidomgpbohiaaGreatDoorM5
import Derived.Lib.Split
import Derived.Lib.ItoaNum
import Derived.Lib.Atoi
import Derived.Lib.Join
import Derived.Lib.Strings
import Derived.Laws.Strings
import Derived.Laws.Strings2
import Derived.Laws.Slices
import Derived.Laws.BytesString
import Derived.Laws.IdiomStrings
import Derived.Shelf.Strings.Builder1
import Derived.Shelf.Strings.Builder2
import Derived.Shelf.Strings.OnBuilder
import Derived.Shelf.Small.Bits
import Derived.Shelf.Small.Wraps
import Derived.Shelf.Strconv.Atoi
import Derived.Shelf.Strconv.Itoa0
import Derived.Shelf.Strconv.Itoa1
import Derived.Shelf.LaysM
import Derived.Shelf.Strconv.Itoa2
import Derived.Shelf.Strconv.Itoa3
import Derived.Shelf.Strconv.AtoiErrFast
import Derived.Shelf.Strconv.ParseIntEmpty
import Derived.Shelf.Strconv.AtoiFail
import Derived.Shelf.Strconv.Clone
import Derived.Shelf.Strconv.SyntaxError
import Derived.Shelf.LaysC
import Derived.Shelf.Strconv.ToError
import Derived.Shelf.Strconv.AtoiErr
import Derived.Shelf.Strconv.ErrVar
import Derived.Shelf.Strings.Search1
import Derived.Shelf.Strings.Search2
import Derived.Shelf.Strings.Search3
import Derived.Shelf.Strings.Count
import Derived.Shelf.Strings.Shaped
import Derived.Shelf.Strings.Prefix
import Derived.Shelf.Strings.Split
import Derived.Shelf.Strings.SplitShaped
import Derived.Shelf.Strings.RuneCount
import Derived.Shelf.Strings.Explode
import Derived.Ground.Names2Prog
import Derived.Ground.SlgnProg
import Derived.Ground.SlsfProg
import Derived.Shelf.SlSortCmp.Insertion
import Derived.Shelf.SlSortCmp.SiftDown1
import Derived.Shelf.SlSortCmp.HeapSort1
import Derived.Shelf.SlSortCmp.Insertion1
import Derived.Shelf.SlSortCmp.Median1
import Derived.Shelf.SlSortCmp.Pivot1
import Derived.Shelf.SlSortCmp.ReverseRange1
import Derived.Shelf.SlSortCmp.PartialInsertion1
import Derived.Shelf.SlSortCmp.PartitionEqual1
import Derived.Shelf.SlSortCmp.Partition1
import Derived.Shelf.SlSortCmp.Pdq1
import Derived.Shelf.SlSortCmp.Whole1
import Derived.Test.YtnhidomgpbohiaaGreatDoorProg
import Derived.Lib.AtoiErrMem
import Derived.Lib.SplitLaws
import Derived.Sort.Grow
import Derived.Deep.Draws
import Derived.Laws.Entries
set_option linter.unusedVariables false
section
/- Full lists of node sets, the node step: the program. -/
namespace Go.Proofs.YtnhidomgpbohiaaGreatDoor
open Go.GX Go.RowKit
set_option maxRecDepth 100000

theorem RUN_make0 {x : Int} {n : Nat} (hx : x = (n : Nat)) (hn : n ≤ 1000) {w : World} {K : Sl → World → Prop} (hk : ∀ s w', Ext w w' → OwnL w' w.heap.size T.t_int s ([] : List Int) → K s w') : RUN Tryz.prog (.at .sl) (Instr.makeSlice T.t_sl_int (.int .i64 0) (.int .i64 x)) w K := by
  subst hx
  obtain ⟨i, hi, hz0, hs, hby⟩ := slt_int.parts
  have hr := run_make (P := Tryz.prog) w T.t_sl_int T.t_int i (.int .i64 0) slt_int.under hi hz0 .i64 .i64 0 (n : Int) (by omega) (by omega) (by rw [hby]; omega) (by omega)
  unfold RUN
  rw [hr]
  refine hk ⟨some ⟨w.heap.size, 0, none⟩, 0, n⟩ _ (ext_push w _) ?_
  have hone : (Value.int .i64 0).cells = #[.int .i64 0] := rfl
  refine own_empty (α := Int) (cap := n) (cur := madeCells (Value.int .i64 0).cells ((n : Int).toNat * i.size)) ?_ (by unfold maxLen; omega) ?_
  · exact Array.getElem?_push_size
  · rw [hs, hone]; simp [madeCells, Rep.sz]

theorem fulls_take {p : Prob} {M : List (List Int)} {i : Nat} (hi : i < M.length) : fullsOf p (M.take (i + 1)) = fullsOf p (M.take i) ++ fullsOf p [M[i]] := by
  unfold fullsOf
  rw [List.take_succ_eq_append_getElem hi, List.filter_append, List.map_append]

theorem fulls_len {p : Prob} (M : List (List Int)) : (fullsOf p M).length ≤ M.length := by
  unfold fullsOf
  rw [List.length_map]
  exact List.length_filter_le _ _

structure FullsIs (w : World) (p : Prob) (r : Sl) (w' : World) : Prop where
  ext : Ext w w'
  ex : ∃ A tt, RowsD w' w.heap.size T.t_int T.t_sl_int r A tt ∧ (∀ l, l ∈ A ↔ l ∈ nodeFull p) ∧ A.length ≤ 262144

theorem fullLists_k2_ok {w w4 : World} {c d x : Sl} {p : Prob} {pa : Addr} (hg : PGood p) (hf : ¬ (p.degree = 4 ∧ 6 < p.labels)) (hE : Ext w w4) (hNS : NS w4 pa p c d) (hR : R w4 x (msets (2 ^ p.labels.toNat - 1) (p.degree.toNat - 1))) :
    V_ptr_i_nodeSets_fullLists_k2 (FullsIs w p) pa x x.len w4 := by
  have hlab := hg.lab
  have hdeg := hg.deg
  have htwo := two_lab hg
  unfold V_ptr_i_nodeSets_fullLists_k2
  have hml := Nat.le_trans (msets_len (2 ^ p.labels.toNat - 1) (p.degree.toNat - 1)) (pow_sets hg hf _ (Nat.le_refl _))
  rw [hR.len]
  generalize hM : msets (2 ^ p.labels.toNat - 1) (p.degree.toNat - 1) = M at *
  have hMm : ∀ r ∈ M, InM (2 ^ p.labels.toNat - 1) (p.degree.toNat - 1) r := fun r hr => mem_msets.1 (by rw [hM]; exact hr)
  have hfl64 : ∀ L : List (List Int), (∀ r ∈ L, r ∈ M) → ∀ r ∈ fullsOf p L, ∀ y ∈ r, I64 y := fun L hL r hr y hy => by
    unfold fullsOf at hr
    obtain ⟨e, he, rfl⟩ := List.mem_map.1 hr
    have hI := hMm e (hL e (List.mem_filter.1 he).1)
    rcases List.mem_append.1 ((sortI_perm _).mem_iff.1 hy) with h1 | h1
    · obtain ⟨z, hz, rfl⟩ := List.mem_map.1 h1
      have := hI.labs z hz
      unfold I64; omega
    · rw [List.mem_singleton.1 h1]
      have := complM_lt p (e.map (· + 1))
      unfold I64; omega
  refine ⟨IN2 M.length fun i (out : Sl) w' => Ext w4 w' ∧ ∃ ss, RowsD w' w4.heap.size T.t_int T.t_sl_int out (fullsOf p (M.take i)) ss, MN2 M.length, IN2_zero ⟨Ext.refl _, [], by simpa [fullsOf] using RowsD.nil _ _ _ _⟩, ?_⟩
  rintro out _ w5 ⟨i, rfl, hi, hE5, ss, hS5⟩
  intros
  refine cond_dec (fun hlt => ?_) (fun hge => ?_)
  · have hi' : i < M.length := by omega
    have hMi := hMm _ (List.getElem_mem hi')
    refine hR.ixL0 hE5 hi' fun q row hrow hc => LD_sl hc ?_
    obtain ⟨af, A, hbA, _, _, _⟩ := hNS.ext hE5
    refine LD_bi1 hbA ?_
    have ek : p.degree = ((p.degree.toNat : Nat) : Int) := by omega
    refine RUN_make0 ek (by omega) fun la w6 hE6 hO6 => ?_
    have hrow6 := (hrow.ext hE5).ext hE6
    rw [hrow6.len]
    have hz6 := hE6.size_le
    let c1 : List Int := M[i].map (· + 1)
    have hc1v : ∀ x ∈ c1, ∃ m : Nat, x = m ∧ m < 2 ^ p.labels.toNat := fun x hx => by
      obtain ⟨z, hz, rfl⟩ := List.mem_map.1 hx
      have := hMi.labs z hz
      exact ⟨(z + 1).toNat, by omega, by omega⟩
    have hMl := hMi.len
    have hone : ∀ {q : Bool}, (decide (complM p c1 ≠ 0) && fullB p (c1 ++ [complM p c1])) = q → fullsOf p [M[i]] = bif q then [sortI (c1 ++ [complM p c1])] else [] := fun {q} hq => by
      unfold fullsOf
      rw [List.filter_cons]
      have : (decide (complM p (M[i].map (· + 1)) ≠ 0) && fullB p (M[i].map (· + 1) ++ [complM p (M[i].map (· + 1))])) = q := hq
      rw [this]
      cases q <;> rfl
    have hskip : ∀ {w' : World}, Ext w5 w' → (decide (complM p c1 ≠ 0) && fullB p (c1 ++ [complM p c1])) = false → IN2 M.length (fun i (out : Sl) w' => Ext w4 w' ∧ ∃ ss, RowsD w' w4.heap.size T.t_int T.t_sl_int out (fullsOf p (M.take i)) ss) out (IntKind.i64.wrap ((i : Int) + 1)) w' ∧ MN2 M.length out (IntKind.i64.wrap ((i : Int) + 1)) w' < MN2 M.length out (i : Int) w5 := fun {w'} hE' hq => by
      refine IN2_next hR.le hi' ⟨hE5.trans hE', ss, ?_⟩
      rw [fulls_take hi', hone hq]
      simpa using hS5.ext hE'
    have hml2 : ∀ j, j ≤ M[i].length → ((M[i].take j).map (· + 1)).length = j := fun j hj => by rw [List.length_map, List.length_take]; omega
    refine ⟨IN2 M[i].length fun j (o : Sl) w' => OwnL w' w5.heap.size T.t_int o ((M[i].take j).map (· + 1)) ∧ Ext w5 w', MN2 M[i].length, IN2_zero ⟨hO6, hE6⟩, ?_⟩
    rintro o _ w7 ⟨j, rfl, hj, hO7, hE57⟩
    intros
    have hrow7 := (hrow.ext hE5).ext hE57
    have hz7 := hE57.size_le
    have hj2 := hml2 j hj
    refine cond_dec (fun hlt2 => ?_) (fun hge2 => ?_)
    · have hj' : j < M[i].length := by omega
      have hmj := hMi.labs _ (List.getElem_mem hj')
      refine hrow7.ixI hj' fun q _ hc => LD_int hc ?_
      rw [wrap_of (n := M[i][j] + 1) (by omega) (by omega)]
      refine RUN_lit1 (α := Int) slt_int _ rfl (by decide) fun y w8 hE8 hO8 => ?_
      have hO78 := hO7.ext hE8
      refine RUN_append (α := Int) slt_int hO78 (by have := hE8.size_le; omega) (hO8.rep (by intro x hx; rw [List.mem_singleton.1 hx]; show I64 _; unfold I64; omega)).any (by simp; omega) (by simp [maxLen]; omega) fun o' w9 hO9 hs9 => ?_
      refine IN2_next hrow7.le hj' ⟨?_, hs9.ext0 (hE57.trans hE8) fun k hk => (hO78.blk k hk).1⟩
      rw [map_take_succ hj']
      exact hO9
    · have : j = M[i].length := by omega
      subst this
      rw [List.take_length] at hO7
      have hc164 : ∀ x ∈ c1, I64 x := fun x hx => by obtain ⟨m, rfl, hm⟩ := hc1v x hx; unfold I64; omega
      have hc1l : c1.length = p.degree.toNat - 1 := by show (M[i].map (· + 1)).length = _; rw [List.length_map, hMl]
      refine call (completing_ok hg (hNS.ext (hE5.trans hE57)) (hO7.rep hc164).any hc1l hc1v) ?_
      rintro _ w10 ⟨rfl, hE10⟩
      have hE510 := hE57.trans hE10
      have hclt := complM_lt p c1
      have hcI : I64 (complM p c1) := by unfold I64; omega
      refine cond_eq (fun h0 => hskip hE510 ?_) (fun hne => ?_)
      · have h0' : complM p c1 = 0 := h0
        simp [h0']
      · have hne' : complM p c1 ≠ 0 := hne
        refine RUN_lit1 (α := Int) slt_int _ rfl (by decide) fun y w11 hE11 hO11 => ?_
        have hO711 := (hO7.ext hE10).ext hE11
        have hz10 := hE10.size_le
        have hz11 := hE11.size_le
        refine RUN_append (α := Int) slt_int hO711 (by omega) (hO11.rep (by intro x hx; rw [List.mem_singleton.1 hx]; exact hcI)).any (by simp; omega) (by simp [maxLen]; omega) fun o2 w12 hO12 hs12 => ?_
        have hE512 : Ext w5 w12 := hs12.ext0 (hE510.trans hE11) fun k hk => (hO711.blk k hk).1
        have hc2v : ∀ x ∈ c1 ++ [complM p c1], ∃ m : Nat, x = m ∧ m < 2 ^ p.labels.toNat := fun x hx => by
          rcases List.mem_append.1 hx with h1 | h1
          · exact hc1v x h1
          · rw [List.mem_singleton.1 h1]; exact ⟨(complM p c1).toNat, by omega, by omega⟩
        have hc264 : ∀ x ∈ c1 ++ [complM p c1], I64 x := fun x hx => by obtain ⟨m, rfl, hm⟩ := hc2v x hx; unfold I64; omega
        have hc2l : (c1 ++ [complM p c1]).length = p.degree.toNat := by rw [List.length_append, hc1l]; simp; omega
        refine call (isFull_ok hg (hNS.ext (hE5.trans hE512)) (hO12.rep hc264).any hc2l hc2v) ?_
        rintro _ w13 ⟨rfl, hE13⟩
        have hE513 := hE512.trans hE13
        refine cond_b (fun ht => ?_) (fun hff => hskip hE513 (by rw [hff]; simp))
        have hO13 : OwnL w13 w5.heap.size T.t_int o2 (c1 ++ [complM p c1]) := hO12.ext hE13
        refine call (sort_ok hO13 (by omega)) ?_
        rintro w14 ⟨hO14, hs14⟩
        have hE514 : Ext w5 w14 := hs14.ext0 hE513 fun k hk => (hO13.blk k hk).1
        refine RUN_lit1 (α := Sl) slt_rows o2 rfl (by decide) fun y2 w15 hE15 hO15 => ?_
        have hE515 := hE514.trans hE15
        have hS15 := hS5.ext hE515
        have hz5 := hE5.size_le
        have hz15 := hE515.size_le
        have hfl := fulls_len (p := p) (M.take i)
        have htl : (M.take i).length ≤ i := by rw [List.length_take]; omega
        refine RUN_append_rowD slt_rows (by decide) hS15 (by omega) ((hO14.ext hE15).low hz5) (hS5.fresh (hO14.ext hE15) (Nat.le_refl _)) hO15 (by omega) (by unfold maxLen; omega) fun s' w16 hS16 hs16 => ?_
        refine IN2_next hR.le hi' ⟨hs16.ext0 (hE5.trans hE515) fun k hk => (hS15.own.blk k hk).1, ss ++ [o2], ?_⟩
        rw [fulls_take hi', hone (q := true) (by rw [ht]; simp [hne'])]
        exact hS16
  · have : i = M.length := by omega
    subst this
    rw [List.take_length] at hS5
    refine call (sortedLists_ok hS5 (hfl64 M fun r hr => hr) (by have := fulls_len (p := p) M; omega)) ?_
    rintro r w6 ⟨hC6, A, tt, hA, hAr, hAm, hAl⟩
    have hE46 : Ext w4 w6 := hC6.ext0 hE5 fun k hk => (hS5.own.blk k hk).1
    refine ⟨hE.trans hE46, A, tt, hA.low hE.size_le, fun l => ?_, by have := fulls_len (p := p) M; omega⟩
    rw [hAm, ← hM]
    exact fulls_mem (by omega)

theorem fullLists_ok {w : World} {c d : Sl} {p : Prob} {pa : Addr} (hg : PGood p) (hf : ¬ (p.degree = 4 ∧ 6 < p.labels)) (hNS : NS w pa p c d) :
    Calls Tryz.prog F.ptr_i_nodeSets_fullLists #[.pointer (some pa)] w (Ret [.at .sl] (FullsIs w p)) := by
  refine C_ptr_i_nodeSets_fullLists ?_
  unfold V_ptr_i_nodeSets_fullLists
  have hlab := hg.lab
  have hdeg := hg.deg
  have htwo := two_lab hg
  intro w1 hE1 _
  have hNS1 := hNS.ext hE1
  obtain ⟨af, A, hbA, _, _, _⟩ := id hNS1
  have en : p.labels = ((p.labels.toNat : Nat) : Int) := by omega
  have e1 : IntKind.i64.wrap (shlI .i64 1 p.labels - 1) = ((2 ^ p.labels.toNat - 1 : Nat) : Int) := by
    rw [en, shl_one (by omega), Int.toNat_natCast]
    have := Nat.two_pow_pos p.labels.toNat
    generalize 2 ^ p.labels.toNat = q at htwo this ⊢
    rw [wrap_of (by omega) (by omega)]; omega
  have e2 : IntKind.i64.wrap (p.degree - 1) = ((p.degree.toNat - 1 : Nat) : Int) := by rw [wrap_of (by omega) (by omega)]; omega
  have hms := multisets_ok w1 (n := 2 ^ p.labels.toNat - 1) (k := p.degree.toNat - 1) (by omega) (by omega) fun j hj => Nat.le_trans (pow_sets hg hf j hj) (by omega)
  have h64 : ∀ r ∈ msets (2 ^ p.labels.toNat - 1) (p.degree.toNat - 1), ∀ x ∈ r, I64 x := fun r hr x hx => by have := (mem_msets.1 hr).labs x hx; unfold I64; omega
  refine ⟨⟨Ext.refl _, LD_bi0 hbA ⟨by omega, Ext.refl _, Ext.refl _, Ext.refl _, LD_bi1 hbA ⟨Ext.refl _, Ext.refl _, ?_⟩⟩⟩, ⟨Ext.refl _, LD_bi1 hbA ⟨Ext.refl _, Ext.refl _, Ext.refl _, LD_bi0 hbA ⟨Ext.refl _, by omega, Ext.refl _, Ext.refl _, ?_⟩⟩⟩⟩
  · rw [e1, e2]
    refine call hms ?_
    rintro x w2 ⟨hE2, ss, hM⟩
    exact ⟨hE2, Ext.refl _, fullLists_k2_ok hg hf (hE1.trans hE2) (hNS1.ext hE2) (hM.rep h64)⟩
  · rw [e1, e2]
    refine call hms ?_
    rintro x w2 ⟨hE2, ss, hM⟩
    exact ⟨hE2, Ext.refl _, fullLists_k2_ok hg hf (hE1.trans hE2) (hNS1.ext hE2) (hM.rep h64)⟩

theorem node_byte {p : Prob} (hg : PGood p) : Byte (nodeFull p) := fun l hl x hx => by
  have h1 := (nodeFull_conf p l hl).vals x hx
  have h2 := two_lab hg
  exact ⟨x.toNat, by omega, by omega⟩

theorem node_len {p : Prob} : ∀ r ∈ nodeFull p, r.length = p.degree.toNat := fun l hl => (nodeFull_conf p l hl).len

theorem byte_congr {L L' : List (List Int)} (h : ∀ x, x ∈ L ↔ x ∈ L') (hB : Byte L') : Byte L := fun l hl x hx => hB l ((h l).1 hl) x hx

theorem nodeStep_ok {w : World} {c d : Sl} {p : Prob} (h : RProb w c d p) (hs : SmallP p) (hg : PGood p) :
    Calls Tryz.prog F.i_nodeStep #[.agg #[.int .i64 p.labels, .int .i64 p.degree, c.v, d.v]] w (Ret [.agg [.int .i64, .int .i64, .sl, .sl], .at .sl, .at .bool] (StIs w (nodeP p) (ndFew p) (nodeSets p))) := by
  refine C_i_nodeStep ?_
  unfold V_i_nodeStep
  refine NEW_intro fun pp w1 hp1 hs1 hE1 hb1 => NEW_intro fun px w2 hp2 hs2 hE2 hb2 => LD_bi1 (hb1.ext hE2) ?_
  have hE := hE1.trans hE2
  have hz1 := hE1.size_le
  replace h := h.ext hE
  replace hb1 := hb1.ext hE2
  have hlab := hg.lab
  have hd := hg.deg
  have hgo : ¬ (p.degree = 4 ∧ 6 < p.labels) → V_i_nodeStep_k1 (StIs w (nodeP p) (ndFew p) (nodeSets p)) pp px w2 := fun hfit => by
    unfold V_i_nodeStep_k1
    refine LD_iiss hb1 ?_
    refine call (newNodeSets_ok h hs hg) ?_
    rintro pa w3 ⟨hE3, hNS⟩
    refine call (fullLists_ok hg hfit hNS) ?_
    rintro x w4 hFI
    obtain ⟨hE4, A, tt, hA, hAm, hAl⟩ := hFI
    have hE24 := hE3.trans hE4
    have hBA := byte_congr hAm (node_byte hg)
    have h64A : ∀ r ∈ A, ∀ x ∈ r, I64 x := fun r hr x hx => by obtain ⟨m, rfl, hm⟩ := hBA r hr x hx; unfold I64; omega
    refine call (newLabels_ok (k := p.degree.toNat) (hA.rep h64A) hBA (fun r hr => node_len r ((hAm r).1 hr)) (by omega) hAl) ?_
    rintro a b w5 ⟨hE5, hOa, tb, hRb⟩
    rw [setsOf_congr hAm] at hOa
    rw [ownOf_congr hAm] at hRb
    have hE25 := hE24.trans hE5
    replace h := h.ext hE25
    replace hb1 := hb1.ext hE25
    replace hb2 := hb2.ext hE25
    refine NEW_ST (zs := [.slice none 0 0]) (one1s a) rfl fun ps w6 hps hE6 hb6 => ?_
    replace h := h.ext hE6
    replace hb1 := hb1.ext hE6
    replace hb2 := hb2.ext hE6
    replace hOa := hOa.ext hE6
    replace hRb := hRb.ext hE6
    have hSv : ∀ x ∈ setsOf (nodeFull p), ∃ m : Nat, x = m ∧ m < 256 := byte_sets rfl
    have hS64 : ∀ y ∈ setsOf (nodeFull p), I64 y := fun y hy => by obtain ⟨m, rfl, hm⟩ := setsOf_byte hy; unfold I64; omega
    have hE26 := hE25.trans hE6
    have hE06 := hE.trans hE26
    have haL : a.len = (setsOf (nodeFull p)).length := hOa.1
    refine LD_bs hb6 ?_
    refine call (within_ok _ _ _ _) ?_
    rintro _ _ ⟨rfl, rfl⟩
    rw [haL]
    refine cond_not (fun hf => ?_) (fun ht => LD_bs hb6 ?_)
    · exact zero_problem hE06 hb2 (by omega) fun w' hE' => ⟨hE', .inr ⟨rfl, fun hfew => inR_false hf ⟨by have := hfew.2.1; unfold nodeSets at this; omega, by have := hfew.2.2; unfold nodeSets at this; omega⟩⟩⟩
    · have hr := inR_true ht
      have hfew : ndFew p := ⟨hfit, by unfold nodeSets; omega, by unfold nodeSets; omega⟩
      have e2 : (2 : Int) = ((2 : Nat) : Int) := rfl
      rw [haL, e2]
      refine call (allowedBy_ok (p := fun l => (prodL (listsAt (setsOf (nodeFull p)) l)).any (nodeB2 p)) (by omega) (by omega) (pow_small8 (by omega) (by omega)) fun l hM w' t hE' hl => nodeStep1_ok h hs hg hb1 hb6 (hOa.rep hS64).any hSv (by omega) (.inl rfl) hM hE' hl) ?_
      rintro z w7 ⟨hE7, ssz, hz⟩
      intro w8 hE8 _
      have hE68 := hE7.trans hE8
      replace hb1 := hb1.ext hE68
      replace hb2 := hb2.ext hE68
      replace hb6 := hb6.ext hE68
      replace hOa := hOa.ext hE68
      replace hRb := hRb.ext hE68
      have hlt2 := hb2.lt
      have hz5 := hE25.size_le
      have hpp : pp.block ≠ px.block := by omega
      have hpsb : ps.block ≠ px.block := by omega
      refine ⟨fun b => b = px.block, hpsb, LD_bs hb6 ⟨by rw [add_block]; exact hpp, LD_bi1 hb1 ⟨hpsb, LD_bs hb6 ?_⟩⟩⟩
      rw [haL]
      refine ST_all hb2 (one4p _ _ _ _) rfl fun w9 hs9 hz9 hb9 => ⟨.of_step hs9 fun k hk => by cases hk; rfl, LD_iiss hb9 ?_⟩
      have hz6 := hE26.size_le
      have hz4 := hE24.size_le
      have hkeep : ∀ k, w2.heap.size ≤ k → k < w8.heap.size → w9.heap[k]? = w8.heap[k]? := fun k h1 h2 => hs9.block k h2 (by intro he; cases he; omega)
      have hmade : PGood (nodeP p) := (NdAsked.mk hg hfit hfew.2).made
      refine ⟨hs9.ext0 (hE06.trans hE68) fun k hk => by cases hk; omega, .inl ⟨rfl, hfew, rfl, rfl, NewP.low (base := w2.heap.size) ⟨?_, ?_, ?_, ?_, ?_⟩ hE.size_le⟩⟩
      · show I64 (((nodeSets p).length : Nat) : Int); unfold I64 nodeSets; omega
      · show I64 p.degree; unfold I64; omega
      · exact ((hRb.low (b := w2.heap.size) hz4).keep hkeep).own2.repD (conf_I64 hmade.nodes hmade.lab.2)
      · exact (((hz.ext hE8).low (b := w2.heap.size) hz6).keep hkeep).own2.repD (conf_I64 hmade.edges hmade.lab.2)
      · exact ((hOa.low (base' := w2.heap.size) hz4).keep fun k hk => hkeep k (by have := (hOa.blk k hk).1; omega) (hOa.blk k hk).2).rep hS64
  refine cond_eq (fun h4 => LD_bi0 hb1 (cond_dec (fun h6 => ?_) (fun h6 => hgo fun hh => h6 hh.2))) (fun h4 => hgo fun hh => h4 hh.1)
  exact zero_problem hE hb2 (by omega) fun w' hE' => ⟨hE', .inr ⟨rfl, fun hfew => hfew.1 ⟨h4, h6⟩⟩⟩

def ndGood (p : Prob) : Prop := PGood p ∧ ndFew p

end Go.Proofs.YtnhidomgpbohiaaGreatDoor
end

section
/- The node step, the reference; the node step of problems that are asked for, both sides. -/
namespace Go.Proofs.YtnhidomgpbohiaaGreatDoor
open Go.GX Go.RowKit
set_option maxRecDepth 100000

theorem RUN_makeB {x : Int} {n : Nat} (hx : x = (n : Nat)) (hn : n ≤ 1000000) {w : World} {K : Sl → World → Prop} (hk : ∀ s w', Ext w w' → OwnL w' w.heap.size T.t_bool s (List.replicate n false) → K s w') : RUN Tryz.prog (.at .sl) (Instr.makeSlice T.t_sl_bool (.int .i64 x) (.int .i64 x)) w K := by
  subst hx
  exact RUN_make (α := Bool) slt_bool (d := false) rfl (by omega) (by unfold maxLen; omega) hk

theorem elTabled_ok {w : World} {c d : Sl} {p : Prob} (h : RProb w c d p) (hg : PGood p) :
    Calls Tryz.prog F.s_elTabled #[.agg #[.int .i64 p.labels, .int .i64 p.degree, c.v, d.v]] w (Ret [.agg [.int .i64, .int .i64, .sl, .sl, .sl]] fun (x : Int) (y : Int) (z : Sl) (u : Sl) (g : Sl) w' => TIs w p c d x y z u g w') := by
  refine C_s_elTabled ?_
  unfold V_s_elTabled
  refine NEW_intro fun pp w1 hp1 hs1 hE1 hb1 => NEW_intro fun px w2 hp2 hs2 hE2 hb2 => ?_
  have hE := hE1.trans hE2
  replace hb1 := hb1.ext hE2
  have hlab := hg.lab
  have hdeg := hg.deg
  have hz := hE1.size_le
  have en : p.labels = ((p.labels.toNat : Nat) : Int) := by omega
  have hN : ∀ j, j ≤ p.degree.toNat → p.labels.toNat ^ j ≤ 4096 := fun j hj => by
    have b1 : p.labels.toNat ^ j ≤ 8 ^ j := Nat.pow_le_pow_left (by omega) _
    have b2 : 8 ^ j ≤ 8 ^ 4 := Nat.pow_le_pow_right (by decide) (by omega)
    have b3 : 8 ^ 4 = 4096 := by decide
    omega
  refine ⟨fun (s : Int) (k : Int) w' => ∃ j : Nat, k = j ∧ j ≤ p.degree.toNat ∧ s = ((p.labels.toNat ^ j : Nat) : Int) ∧ Ext w2 w', fun _ k _ => p.degree.toNat - k.toNat, ⟨0, rfl, Nat.zero_le _, by simp, Ext.refl _⟩, ?_⟩
  rintro _ _ w3 ⟨j, rfl, hj, rfl, hE3⟩
  intros
  replace hb1 := hb1.ext hE3
  replace hb2 := hb2.ext hE3
  have hNj := hN j hj
  refine LD_bi1 hb1 (cond_dec (fun hlt => LD_bi0 hb1 ?_) (fun hge => ?_))
  · have e1 : ((p.labels.toNat ^ j : Nat) : Int) * p.labels = ((p.labels.toNat ^ (j + 1) : Nat) : Int) := by rw [Nat.pow_succ, Int.natCast_mul, ← en]
    have hN1 := hN (j + 1) (by omega)
    rw [e1, wrapN (by omega), wrap_of (by omega) (by omega)]
    exact ⟨⟨j + 1, by omega, by omega, rfl, hE3⟩, by simp only []; omega⟩
  · have : j = p.degree.toNat := by omega
    subst this
    intro w4 hE4 _
    replace hb1 := hb1.ext hE4
    replace hb2 := hb2.ext hE4
    have hE24 := hE3.trans hE4
    have hE04 := hE.trans hE24
    have hz2 := hE24.size_le
    have hl1 := hb1.lt
    have hl2 := hb2.lt
    refine ⟨fun b => w4.heap.size ≤ b, by omega, LD_iiss hb1 ⟨?_, ?_⟩⟩
    · refine RUN_makeB rfl (by omega) fun g w5 hE5 hO5 => ⟨.of_ext hE5, NEW_intro fun px5 w6 hp6 hs6 hE6 hb6 => ⟨.of_ext (hE5.trans hE6), ?_⟩⟩
      have hE46 := hE5.trans hE6
      have hz5 := hE5.size_le
      refine ST_all hb6 (one5p _ _ _ _ _) rfl fun w7 hs7 hz7 hb7 => ⟨(Chg.of_ext hE46).trans (.of_step hs7 fun k hk => by cases hk; omega), ?_⟩
      have hE47 : Ext w4 w7 := hs7.ext0 hE46 fun k hk => by cases hk; omega
      exact elTabled_k4_ok hg (hE04.trans hE47) h (hb1.ext hE47) (hb2.ext hE47) hb7 ((hO5.ext hE6).stepB hb6 (by decide) hs7) (by omega) (by omega)
    · refine NEW_intro fun px5 w8 hp8 hs8 hE8 hb8 => ⟨.of_ext hE8, ?_⟩
      have hz8 := hE8.size_le
      refine RUN_makeB rfl (by omega) fun g w9 hE9 hO9 => ⟨.of_ext (hE8.trans hE9), .of_ext (hE8.trans hE9), ?_⟩
      have hE49 := hE8.trans hE9
      have hb9 := hb8.ext hE9
      refine ST_all hb9 (one5p _ _ _ _ _) rfl fun w10 hs10 hz10 hb10 => ⟨(Chg.of_ext hE49).trans (.of_step hs10 fun k hk => by cases hk; omega), ?_⟩
      have hE4x : Ext w4 w10 := hs10.ext0 hE49 fun k hk => by cases hk; omega
      exact elTabled_k4_ok hg (hE04.trans hE4x) h (hb1.ext hE4x) (hb2.ext hE4x) hb10 (hO9.stepB hb9 (by decide) hs10) (by omega) (by omega)

/-! ### The full lists, the reference's way -/

def gG (p : Prob) (c : List Int) : List Int := c.map (· + 1) ++ [complM p (c.map (· + 1))]
def gF (p : Prob) (c : List Int) : Bool := decide (complM p (c.map (· + 1)) ≠ 0) && (c.map (· + 1)).all (fun x => decide (x ≤ complM p (c.map (· + 1)))) && fullB p (gG p c)
def fullsS (p : Prob) (C : List (List Int)) : List (List Int) := (C.filter (gF p)).map (gG p)

theorem fullsS_mem {p : Prob} {d : Nat} (hd : p.degree.toNat = d + 1) {l : List Int} : l ∈ fullsS p (msets (2 ^ p.labels.toNat - 1) d) ↔ l ∈ nodeFull p := by
  rw [nodeFull_of' hd]
  unfold fullsS setLists
  rw [List.mem_map]
  constructor
  · rintro ⟨c, hc, rfl⟩
    rw [List.mem_filter] at hc
    have h2 := hc.2
    unfold gF at h2
    rw [Bool.and_eq_true, Bool.and_eq_true, decide_eq_true_eq, List.all_eq_true] at h2
    exact ⟨_, List.mem_map.2 ⟨c, hc.1, rfl⟩, h2.1.1, fun x hx => of_decide_eq_true (h2.1.2 x hx), h2.2, rfl⟩
  · rintro ⟨c, hc, h0, hle, hf, rfl⟩
    obtain ⟨e, he, rfl⟩ := List.mem_map.1 hc
    refine ⟨e, ?_, rfl⟩
    rw [List.mem_filter]
    refine ⟨he, ?_⟩
    unfold gF
    rw [Bool.and_eq_true, Bool.and_eq_true, decide_eq_true_eq, List.all_eq_true]
    exact ⟨⟨h0, fun x hx => decide_eq_true (hle x hx)⟩, hf⟩

theorem fullsS_take {p : Prob} {M : List (List Int)} {i : Nat} (hi : i < M.length) : fullsS p (M.take (i + 1)) = fullsS p (M.take i) ++ fullsS p [M[i]] := by
  unfold fullsS
  rw [List.take_succ_eq_append_getElem hi, List.filter_append, List.map_append]

theorem fullsS_len {p : Prob} (M : List (List Int)) : (fullsS p M).length ≤ M.length := by
  unfold fullsS
  rw [List.length_map]
  exact List.length_filter_le _ _

theorem last_max {n k : Nat} {c : List Int} (h : InM n k c) (hc : 0 < c.length) {v : Int} : (c.map (· + 1)).all (fun x => decide (x ≤ v)) = !decide (v < (c.map (· + 1))[(c.map (· + 1)).length - 1]'(by rw [List.length_map]; omega)) := by
  rw [Bool.eq_iff_iff, List.all_eq_true, Bool.not_eq_true', decide_eq_false_iff_not]
  have hlast := last_of_len hc fun x hx => (h.labs x hx).1
  have hel : (c.map (· + 1))[(c.map (· + 1)).length - 1]'(by rw [List.length_map]; omega) = (lastOf c : Int) + 1 := by
    rw [← hlast]; simp
  rw [hel]
  constructor
  · intro hx
    have := of_decide_eq_true (hx ((lastOf c : Int) + 1) (List.mem_map.2 ⟨lastOf c, by rw [← hlast]; exact List.getElem_mem _, rfl⟩))
    omega
  · intro hv x hx
    obtain ⟨y, hy, rfl⟩ := List.mem_map.1 hx
    have := le_last h.sorted (fun x hx => (h.labs x hx).1) y hy
    rw [decide_eq_true_eq]; omega

theorem elNode_k1_ok {w w4 : World} {c d : Sl} {p : Prob} {px1 px2 : Addr} (hg : PGood p) (hf : ¬ (p.degree = 4 ∧ 6 < p.labels)) (h : RProb w c d p) (hE : Ext w w4) (hb1 : Box w4 px1 T.t_i_Problem [.int .i64 p.labels, .int .i64 p.degree, c.v, d.v]) (hb2 : Box w4 px2 T.t_i_Problem [.int .i64 0, .int .i64 0, .slice none 0 0, .slice none 0 0]) (hp2 : w.heap.size ≤ px2.block) :
    V_s_elNode_k1 (StIs w (nodeP p) (ndFew p) (nodeSets p)) px1 px2 w4 := by
  have hlab := hg.lab
  have hdeg := hg.deg
  have htwo := two_lab hg
  unfold V_s_elNode_k1
  refine LD_iiss hb1 ?_
  refine call (elTabled_ok (h.ext hE) hg) ?_
  rintro x y z u g w5 ⟨rfl, rfl, rfl, rfl, hE5, hT5⟩
  refine NEW_ST (one5p _ _ _ _ _) rfl fun px5 w7 hp5 hE7 hb5 => ?_
  intro w8 hE8 _
  have hE48 := hE5.trans (hE7.trans hE8)
  have hE08 := hE.trans hE48
  have hT := hT5.ext (hE7.trans hE8)
  replace h := h.ext hE08
  replace hb1 := hb1.ext hE48
  replace hb2 := hb2.ext hE48
  replace hb5 := hb5.ext hE8
  have en : p.labels = ((p.labels.toNat : Nat) : Int) := by omega
  have e1 : IntKind.i64.wrap (shlI .i64 1 p.labels - 1) = ((2 ^ p.labels.toNat - 1 : Nat) : Int) := by
    rw [en, shl_one (by omega), Int.toNat_natCast]
    have := Nat.two_pow_pos p.labels.toNat
    generalize 2 ^ p.labels.toNat = q at htwo this ⊢
    rw [wrap_of (by omega) (by omega)]; omega
  have e2 : IntKind.i64.wrap (p.degree - 1) = ((p.degree.toNat - 1 : Nat) : Int) := by rw [wrap_of (by omega) (by omega)]; omega
  have hms := reChoices_ok w8 (n := 2 ^ p.labels.toNat - 1) (k := p.degree.toNat - 1) (by omega) (by omega) fun j hj => Nat.le_trans (pow_sets hg hf j hj) (by omega)
  have h64 : ∀ r ∈ msets (2 ^ p.labels.toNat - 1) (p.degree.toNat - 1), ∀ x ∈ r, I64 x := fun r hr x hx => by have := (mem_msets.1 hr).labs x hx; unfold I64; omega
  refine LD_bi0 hb1 ⟨by omega, LD_bi1 hb1 ?_⟩
  rw [e1, e2]
  refine call hms ?_
  rintro x w9 ⟨hE9, ssM, hRM⟩
  have hR := hRM.rep h64
  refine ⟨hE9, hE9, ?_⟩
  replace hE08 := hE08.ext hE9
  replace h := h.ext hE9
  replace hb1 := hb1.ext hE9
  replace hb2 := hb2.ext hE9
  replace hb5 := hb5.ext hE9
  replace hT := hT.ext hE9
  have hml := Nat.le_trans (msets_len (2 ^ p.labels.toNat - 1) (p.degree.toNat - 1)) (pow_sets hg hf _ (Nat.le_refl _))
  rw [hR.len]
  generalize hM : msets (2 ^ p.labels.toNat - 1) (p.degree.toNat - 1) = M at *
  have hMm : ∀ r ∈ M, InM (2 ^ p.labels.toNat - 1) (p.degree.toNat - 1) r := fun r hr => mem_msets.1 (by rw [hM]; exact hr)
  have hmem : ∀ l, l ∈ fullsS p M ↔ l ∈ nodeFull p := fun l => by rw [← hM]; exact fullsS_mem (by omega)
  refine ⟨IN2 M.length fun i (out : Sl) w' => Ext w9 w' ∧ ∃ ss, RowsD w' w9.heap.size T.t_int T.t_sl_int out (fullsS p (M.take i)) ss, MN2 M.length, IN2_zero ⟨Ext.refl _, [], by simpa [fullsS] using RowsD.nil _ _ _ _⟩, ?_⟩
  rintro out _ w10 ⟨i, rfl, hi, hE10, ss, hS10⟩
  intros
  refine cond_dec (fun hlt => ?_) (fun hge => ?_)
  · have hi' : i < M.length := by omega
    have hMi := hMm _ (List.getElem_mem hi')
    refine (hR.ext hE10).ixL hi' fun q row hrow hc => LD_sl hc ?_
    have hMl := hMi.len
    rw [hrow.len]
    let c1 : List Int := M[i].map (· + 1)
    have hc1v : ∀ x ∈ c1, ∃ m : Nat, x = m ∧ m < 2 ^ p.labels.toNat := fun x hx => by
      obtain ⟨z, hz, rfl⟩ := List.mem_map.1 hx
      have := hMi.labs z hz
      exact ⟨(z + 1).toNat, by omega, by omega⟩
    have hone : ∀ {q : Bool}, gF p M[i] = q → fullsS p [M[i]] = bif q then [c1 ++ [complM p c1]] else [] := fun {q} hq => by
      unfold fullsS
      rw [List.filter_cons, hq]
      cases q <;> rfl
    have hskip : ∀ {w' : World}, Ext w10 w' → gF p M[i] = false → V_s_elNode_k5 (IN2 M.length fun i (out : Sl) w' => Ext w9 w' ∧ ∃ ss, RowsD w' w9.heap.size T.t_int T.t_sl_int out (fullsS p (M.take i)) ss) (MN2 M.length) out (i : Int) w10 out w' := fun {w'} hE' hq => by
      unfold V_s_elNode_k5
      refine IN2_next hR.le hi' ⟨hE10.trans hE', ss, ?_⟩
      rw [fullsS_take hi', hone hq]
      simpa using hS10.ext hE'
    have hml2 : ∀ j, j ≤ M[i].length → ((M[i].take j).map (· + 1)).length = j := fun j hj => by rw [List.length_map, List.length_take]; omega
    refine ⟨IN2 M[i].length fun j (o : Sl) w' => OwnL w' w10.heap.size T.t_int o ((M[i].take j).map (· + 1)) ∧ Ext w10 w', MN2 M[i].length, IN2_zero ⟨OwnL.nil _ _ _, Ext.refl _⟩, ?_⟩
    rintro o _ w11 ⟨j, rfl, hj, hO11, hE11⟩
    intros
    have hrow11 := hrow.ext hE11
    have hz11 := hE11.size_le
    have hj2 := hml2 j hj
    refine cond_dec (fun hlt2 => ?_) (fun hge2 => ?_)
    · have hj' : j < M[i].length := by omega
      have hmj := hMi.labs _ (List.getElem_mem hj')
      refine hrow11.ixI hj' fun q _ hc => LD_int hc ?_
      rw [wrap_of (n := M[i][j] + 1) (by omega) (by omega)]
      refine RUN_lit1 (α := Int) slt_int _ rfl (by decide) fun y w12 hE12 hO12 => ?_
      have hO112 := hO11.ext hE12
      refine RUN_append (α := Int) slt_int hO112 (by have := hE12.size_le; omega) (hO12.rep (by intro x hx; rw [List.mem_singleton.1 hx]; show I64 _; unfold I64; omega)).any (by simp; omega) (by simp [maxLen]; omega) fun o' w13 hO13 hs13 => ?_
      refine IN2_next hrow11.le hj' ⟨?_, hs13.ext0 (hE11.trans hE12) fun k hk => (hO112.blk k hk).1⟩
      rw [map_take_succ hj']
      exact hO13
    · have : j = M[i].length := by omega
      subst this
      rw [List.take_length] at hO11
      have hc164 : ∀ x ∈ c1, I64 x := fun x hx => by obtain ⟨m, rfl, hm⟩ := hc1v x hx; unfold I64; omega
      have hc1l : c1.length = p.degree.toNat - 1 := by show (M[i].map (· + 1)).length = _; rw [List.length_map, hMl]
      have hE911 := hE10.trans hE11
      refine LD_iisss (hb5.ext hE911) ?_
      refine call (restM_ok hg (hT.ext hE911) (hO11.rep hc164).any hc1l hc1v) ?_
      rintro _ w14 ⟨rfl, hE14⟩
      have hE1014 := hE11.trans hE14
      have hclt := complM_lt p c1
      have hcI : I64 (complM p c1) := by unfold I64; omega
      have hol : o.len = c1.length := hO11.1
      rw [hol]
      refine cond_eq (fun h0 => hskip hE1014 ?_) (fun hne => ?_)
      · have h0' : complM p (M[i].map (· + 1)) = 0 := h0
        simp [gF, h0']
      · have hne' : complM p (M[i].map (· + 1)) ≠ 0 := hne
        have hk9 : (c1.all fun x => decide (x ≤ complM p c1)) = true → V_s_elNode_k9 (IN2 M.length fun i (out : Sl) w' => Ext w9 w' ∧ ∃ ss, RowsD w' w9.heap.size T.t_int T.t_sl_int out (fullsS p (M.take i)) ss) (MN2 M.length) (i : Int) w10 px5 out o (complM p c1) w14 := fun hall => by
          unfold V_s_elNode_k9
          refine RUN_lit1 (α := Int) slt_int _ rfl (by decide) fun y w15 hE15 hO15 => ?_
          have hO1115 := (hO11.ext hE14).ext hE15
          have hz14 := hE14.size_le
          have hz15 := hE15.size_le
          refine RUN_append (α := Int) slt_int hO1115 (by omega) (hO15.rep (by intro x hx; rw [List.mem_singleton.1 hx]; exact hcI)).any (by simp; omega) (by simp [maxLen]; omega) fun o2 w16 hO16 hs16 => ?_
          have hE1016 : Ext w10 w16 := hs16.ext0 (hE1014.trans hE15) fun k hk => (hO1115.blk k hk).1
          have hc2v : ∀ x ∈ c1 ++ [complM p c1], ∃ m : Nat, x = m ∧ m < 2 ^ p.labels.toNat := fun x hx => by
            rcases List.mem_append.1 hx with h1 | h1
            · exact hc1v x h1
            · rw [List.mem_singleton.1 h1]; exact ⟨(complM p c1).toNat, by omega, by omega⟩
          have hc264 : ∀ x ∈ c1 ++ [complM p c1], I64 x := fun x hx => by obtain ⟨m, rfl, hm⟩ := hc2v x hx; unfold I64; omega
          have hc2l : (c1 ++ [complM p c1]).length = p.degree.toNat := by rw [List.length_append, hc1l]; simp; omega
          have hE916 := hE10.trans hE1016
          refine LD_iisss (hb5.ext hE916) ?_
          refine call (full_ok hg (hT.ext hE916) (hO16.rep hc264).any hc2l hc2v) ?_
          rintro _ w17 ⟨rfl, hE17⟩
          have hE1017 := hE1016.trans hE17
          have hgF : gF p M[i] = fullB p (c1 ++ [complM p c1]) := by
            have hall' : ((M[i].map (· + 1)).all fun x => decide (x ≤ complM p (M[i].map (· + 1)))) = true := hall
            unfold gF
            rw [hall', decide_eq_true hne']
            rfl
          refine cond_b (fun ht => ?_) (fun hff => hskip hE1017 (by rw [hgF, hff]))
          refine RUN_lit1 (α := Sl) slt_rows o2 rfl (by decide) fun y2 w18 hE18 hO18 => ?_
          have hE1018 := hE1017.trans hE18
          have hS18 := hS10.ext hE1018
          have hz10 := hE10.size_le
          have hz18 := hE1018.size_le
          have hfl := fullsS_len (p := p) (M.take i)
          have htl : (M.take i).length ≤ i := by rw [List.length_take]; omega
          have hO17 := (hO16.ext hE17).ext hE18
          refine RUN_append_rowD slt_rows (by decide) hS18 (by omega) (hO17.low hz10) (hS10.fresh hO17 (Nat.le_refl _)) hO18 (by omega) (by unfold maxLen; omega) fun s' w19 hS19 hs19 => ?_
          unfold V_s_elNode_k5
          refine IN2_next hR.le hi' ⟨hs19.ext0 (hE10.trans hE1018) fun k hk => (hS18.own.blk k hk).1, ss ++ [o2], ?_⟩
          rw [fullsS_take hi', hone (q := true) (by rw [hgF, ht])]
          exact hS19
        refine cond_dec (fun hpos => ?_) (fun hz => hk9 (by
          have : c1 = [] := List.eq_nil_of_length_eq_zero (by omega)
          rw [this]; rfl))
        have e3 : IntKind.i64.wrap ((c1.length : Int) - 1) = ((c1.length - 1 : Nat) : Int) := by rw [wrap_of (by omega) (by omega)]; omega
        rw [e3]
        have hlm := last_max hMi (v := complM p c1) (by omega)
        refine ((hO11.rep hc164).any.ext hE14).ixI (i := c1.length - 1) (by show c1.length - 1 < c1.length; omega) fun q _ hc => LD_int hc ?_
        refine cond_dec (fun hlt3 => hskip hE1014 ?_) (fun hge3 => hk9 ?_)
        · have h1 : ((M[i].map (· + 1)).all fun x => decide (x ≤ complM p (M[i].map (· + 1)))) = false := by
            have := hlm
            rw [decide_eq_true hlt3] at this
            exact this
          unfold gF
          rw [h1]; simp
        · rw [decide_eq_false hge3] at hlm
          exact hlm
  · have : i = M.length := by omega
    subst this
    rw [List.take_length] at hS10
    have hBA := byte_congr hmem (node_byte hg)
    have h64A : ∀ r ∈ fullsS p M, ∀ x ∈ r, I64 x := fun r hr x hx => by obtain ⟨m, rfl, hm⟩ := hBA r hr x hx; unfold I64; omega
    have hfl := fullsS_len (p := p) M
    replace hE08 := hE08.ext hE10
    replace h := h.ext hE10
    replace hb1 := hb1.ext hE10
    replace hb2 := hb2.ext hE10
    refine LD_iiss hb1 ?_
    refine call (elMade_ok (k := p.degree.toNat) false h hg (hS10.rep h64A) hBA (fun r hr => node_len r ((hmem r).1 hr)) (by omega) (by omega)) ?_
    rintro x y z u a b w11 hst
    have hmp : madeP p false (fullsS p M) p.degree.toNat = nodeP p := by
      rw [← made_node]
      unfold madeP
      rw [setsOf_congr hmem, ownOf_congr hmem]
    rw [hmp, setsOf_congr hmem] at hst
    have hst' : StIs w10 (nodeP p) (ndFew p) (nodeSets p) x y z u a b w11 := ⟨hst.1, by
      rcases hst.2 with ⟨r1, r2, r3⟩ | ⟨r1, r2⟩
      · exact .inl ⟨r1, ⟨hf, r2⟩, r3⟩
      · exact .inr ⟨r1, fun hA => r2 hA.2⟩⟩
    have hlt2 := hb2.lt
    exact StIs.through hst' hE08 (hb2.ext hst.1) hp2 (by omega) fun w' h => h

theorem elNode_ok {w : World} {c d : Sl} {p : Prob} (h : RProb w c d p) (hg : PGood p) :
    Calls Tryz.prog F.s_elNode #[.agg #[.int .i64 p.labels, .int .i64 p.degree, c.v, d.v]] w (Ret [.agg [.int .i64, .int .i64, .sl, .sl], .at .sl, .at .bool] (StIs w (nodeP p) (ndFew p) (nodeSets p))) := by
  refine C_s_elNode ?_
  unfold V_s_elNode
  refine NEW_intro fun pp w1 hp1 hs1 hE1 hb1 => NEW_intro fun px w2 hp2 hs2 hE2 hb2 => LD_bi1 (hb1.ext hE2) ?_
  have hE := hE1.trans hE2
  have hz1 := hE1.size_le
  replace hb1 := hb1.ext hE2
  have hgo : ¬ (p.degree = 4 ∧ 6 < p.labels) → V_s_elNode_k1 (StIs w (nodeP p) (ndFew p) (nodeSets p)) pp px w2 := fun hfit => elNode_k1_ok hg hfit h hE hb1 hb2 (by omega)
  refine cond_eq (fun h4 => LD_bi0 hb1 (cond_dec (fun h6 => ?_) (fun h6 => hgo fun hh => h6 hh.2))) (fun h4 => hgo fun hh => h4 hh.1)
  exact zero_problem hE hb2 (by omega) fun w' hE' => ⟨hE', .inr ⟨rfl, fun hfew => hfew.1 ⟨h4, h6⟩⟩⟩
end Go.Proofs.YtnhidomgpbohiaaGreatDoor
end

section
/- slices.SortStableFunc at []int, for lists of numbers: the pieces of its code (swaps, rotations, insertion, merging) and what they bring about. -/
namespace Go.Proofs.YtnhidomgpbohiaaGreatDoor
open Go.GX Go.RowKit
set_option maxRecDepth 100000

/-! ### Places and swaps -/

def gt (l : List Int) (i : Nat) : Int := l.getD i 0
theorem gt_get {l : List Int} {i : Nat} (h : i < l.length) : gt l i = l[i] := by simp [gt, h]
def swp (l : List Int) (p q : Nat) : List Int := (l.set q (gt l p)).set p (gt l q)

theorem swp_perm {l : List Int} {p q : Nat} (hp : p < l.length) (hq : q < l.length) : (swp l p q).Perm l := by
  have := List.set_set_perm hq hp
  unfold swp
  rw [gt_get hp, gt_get hq]
  exact this

/-- The list that is being sorted: in memory, changed in its own block alone, a permutation of the first one. -/
structure Sd (w0 : World) (base : Nat) (s : Sl) (l0 : List Int) (w : World) (l : List Int) : Prop where
  own : OwnL w base T.t_int s l
  chg : Chg w0 w (oB s)
  perm : l.Perm l0

section
variable {w0 w w' : World} {base : Nat} {s : Sl} {l0 l : List Int} {cmp : Value} {key : Int → Int}

theorem Sd.ext (h : Sd w0 base s l0 w l) (hE : Ext w w') : Sd w0 base s l0 w' l := ⟨h.own.ext hE, h.chg.trans (.of_ext hE), h.perm⟩
theorem Sd.len (h : Sd w0 base s l0 w l) : l.length = l0.length := h.perm.length_eq
theorem Sd.mem (h : Sd w0 base s l0 w l) {i : Nat} (hi : i < l0.length) : gt l i ∈ l0 := by
  have hi' : i < l.length := by rw [h.len]; exact hi
  rw [gt_get hi']
  exact h.perm.mem_iff.1 (List.getElem_mem hi')
theorem Sd.rep (h : Sd w0 base s l0 w l) (hI : ∀ x ∈ l0, I64 x) : R w s l := (h.own.rep fun x hx => hI x (h.perm.mem_iff.1 hx)).any
theorem Sd.ix (h : Sd w0 base s l0 w l) (hI : ∀ x ∈ l0, I64 x) {i : Nat} (hi : i < l0.length) {K : Addr → Prop} (hk : ∀ p, w.cell? p = some (.int .i64 (gt l i)) → K p) : IX s i 1 K := by
  have hi' : i < l.length := by rw [h.len]; exact hi
  refine (h.rep hI).ixI hi' fun p _ hc => hk p ?_
  rw [gt_get hi']; exact hc

theorem Sd.swap (h : Sd w0 base s l0 w l) (hI : ∀ x ∈ l0, I64 x) {p q : Nat} (hp : p < l0.length) (hq : q < l0.length) {K : World → Prop} (hk : ∀ w', Sd w0 base s l0 w' (swp l p q) → K w') :
    ∃ D : Nat → Prop, IX s p 1 fun a1 => IX s q 1 fun a2 => ¬ D a1.block ∧ (LD [.int .i64] a1 w fun x => LD [.int .i64] a2 w fun y => Chg w w D ∧ (IX s q 1 fun a3 => GX.ST a3 0 [.int .i64 x] w fun w9 => IX s p 1 fun a4 => GX.ST a4 0 [.int .i64 y] w9 K)) := by
  have hp' : p < l.length := by rw [h.len]; exact hp
  have hq' : q < l.length := by rw [h.len]; exact hq
  refine ⟨fun _ => False, h.ix hI hp fun a1 hc1 => h.ix hI hq fun a2 hc2 => ⟨not_false, LD_int hc1 (LD_int hc2 ⟨Chg.refl _ _, ?_⟩)⟩⟩
  refine IX_own h.own hq' rfl fun p1 hp1 => ST_own h.own hq' hp1 (gt l p) rfl fun w1 hO1 hs1 => ?_
  refine IX_own hO1 (by simpa using hp') rfl fun p2 hp2 => ST_own hO1 (by simpa using hp') hp2 (gt l q) rfl fun w2 hO2 hs2 => ?_
  exact hk w2 ⟨hO2, h.chg.trans ((Chg.of_step hs1 fun k hk => hk).trans (.of_step hs2 fun k hk => hk)), (swp_perm hp' hq').trans h.perm⟩

/-! ### Ranges swapped and rotated -/

/-! ### Order -/

def ltK (key : Int → Int) (x y : Int) : Prop := key x < key y ∨ (key x = key y ∧ x < y)
theorem ltK.trans {key : Int → Int} {x y z : Int} (h : ltK key x y) (k : ltK key y z) : ltK key x z := by
  unfold ltK at *; omega
theorem ltK.le {key : Int → Int} {x y : Int} (h : ltK key x y) : key x ≤ key y := by unfold ltK at h; omega

/-- Sorted between two places. -/
def SIn (key : Int → Int) (l : List Int) (a b : Nat) : Prop := ∀ i j, a ≤ i → i < j → j < b → ltK key (gt l i) (gt l j)
/-- What lies between two places lay there before. -/
def SubIn (l l' : List Int) (a b : Nat) : Prop := ∀ i, a ≤ i → i < b → ∃ j, a ≤ j ∧ j < b ∧ gt l' i = gt l j
def SameOut (l l' : List Int) (a b : Nat) : Prop := ∀ i, (i < a ∨ b ≤ i) → gt l' i = gt l i

theorem SubIn.refl (l : List Int) (a b : Nat) : SubIn l l a b := fun i h1 h2 => ⟨i, h1, h2, rfl⟩
theorem SubIn.trans {l l' l'' : List Int} {a b : Nat} (h : SubIn l l' a b) (k : SubIn l' l'' a b) : SubIn l l'' a b := fun i h1 h2 => by
  obtain ⟨j, h3, h4, h5⟩ := k i h1 h2
  obtain ⟨m, h6, h7, h8⟩ := h j h3 h4
  exact ⟨m, h6, h7, h5.trans h8⟩
theorem SubIn.wide {l l' : List Int} {a b a' b' : Nat} (h : SubIn l l' a b) (ho : SameOut l l' a b) (ha : a' ≤ a) (hb : b ≤ b') : SubIn l l' a' b' := fun i h1 h2 => by
  by_cases hi : a ≤ i ∧ i < b
  · obtain ⟨j, h3, h4, h5⟩ := h i hi.1 hi.2
    exact ⟨j, by omega, by omega, h5⟩
  · exact ⟨i, h1, h2, ho i (by omega)⟩
theorem SameOut.wide {l l' : List Int} {a b a' b' : Nat} (h : SameOut l l' a b) (ha : a' ≤ a) (hb : b ≤ b') : SameOut l l' a' b' := fun i hi => h i (by omega)
theorem SameOut.trans {l l' l'' : List Int} {a b : Nat} (h : SameOut l l' a b) (k : SameOut l' l'' a b) : SameOut l l'' a b := fun i hi => (k i hi).trans (h i hi)

/-- While a number sinks to its place: it lies at place j; the others are sorted; those behind it are greater. -/
structure Sink (key : Int → Int) (l l' : List Int) (a i j : Nat) (x : Int) : Prop where
  at_ : gt l' j = x
  sorted : ∀ p q, a ≤ p → p < q → q ≤ i → p ≠ j → q ≠ j → ltK key (gt l' p) (gt l' q)
  behind : ∀ q, j < q → q ≤ i → ltK key x (gt l' q)
  sub : ∀ p, a ≤ p → p ≤ i → p ≠ j → ∃ m, a ≤ m ∧ m < i ∧ gt l' p = gt l m
  out : ∀ p, (p < a ∨ i < p) → gt l' p = gt l p

/-! ### Merging -/

/-- What is known when the place of the cut is found. -/
structure Cut (key : Int → Int) (l : List Int) (a m b c e : Nat) : Prop where
  ac : a ≤ c
  cm : c ≤ m
  me : m ≤ e
  eb : e ≤ b
  low : ∀ p q, a ≤ p → p < c → e ≤ q → q < b → ltK key (gt l p) (gt l q)
  high : ∀ p q, m ≤ p → p < e → c ≤ q → q < m → key (gt l p) < key (gt l q)

/-- What the rotation leaves: two pairs of sorted ranges, and all of the first pair before all of the second. -/
structure Mid (key : Int → Int) (l l1 : List Int) (a b c e d : Nat) : Prop where
  s11 : SIn key l1 a c
  s12 : SIn key l1 c d
  s21 : SIn key l1 d e
  s22 : SIn key l1 e b
  n1 : ∀ i j, a ≤ i → i < c → c ≤ j → j < d → gt l1 i < gt l1 j
  n2 : ∀ i j, d ≤ i → i < e → e ≤ j → j < b → gt l1 i < gt l1 j
  cross : ∀ p q, a ≤ p → p < d → d ≤ q → q < b → ltK key (gt l1 p) (gt l1 q)
  sub : SubIn l l1 a b
  out : SameOut l l1 a b

/-- Behind the first phase: two blocks at most. -/
def Two (key : Int → Int) (l0 l : List Int) : Prop := (l0.length ≤ 20 → SIn key l 0 l0.length) ∧ (20 < l0.length → SIn key l 0 20 ∧ SIn key l 20 l0.length ∧ SubIn l0 l 0 20 ∧ SubIn l0 l 20 l0.length)

theorem SIn.pairwise {l : List Int} (h : SIn key l 0 l.length) : l.Pairwise (ltK key) := by
  rw [List.pairwise_iff_getElem]
  intro i j hi hj hij
  have := h i j (by omega) hij hj
  rwa [gt_get hi, gt_get hj] at this

end


end Go.Proofs.YtnhidomgpbohiaaGreatDoor
end

section
/- Distances in a network, and the search that finds them, in plain words: no program in sight. -/
namespace Go.Proofs.YtnhidomgpbohiaaGreatDoor

/-- A walk of k steps from v to x. -/
def Reach (E : Ends) (v : Nat) : Nat → Nat → Prop
  | 0, x => x = v
  | k + 1, x => ∃ y, Reach E v k y ∧ (x : Int) ∈ adjOf E y

/-- The list of all distances from v: -1 where no walk leads. -/
structure Dists (E : Ends) (v : Nat) (D : List Int) : Prop where
  len : D.length = E.length
  low : ∀ u, -1 ≤ D.getD u (-1)
  sound : ∀ u d : Nat, D.getD u (-1) = d → Reach E v d u
  least : ∀ k x, Reach E v k x → 0 ≤ D.getD x (-1) ∧ D.getD x (-1) ≤ k

theorem Dists.eq {E : Ends} {v : Nat} {D D' : List Int} (h : Dists E v D) (h' : Dists E v D') : D = D' := by
  have key : ∀ {A B : List Int}, Dists E v A → Dists E v B → ∀ u, 0 ≤ A.getD u (-1) → 0 ≤ B.getD u (-1) ∧ B.getD u (-1) ≤ A.getD u (-1) := by
    intro A B hA hB u hu
    obtain ⟨d, hd⟩ := Int.eq_ofNat_of_zero_le hu
    have := hB.least d u (hA.sound u d hd)
    rw [hd]
    exact this
  apply List.ext_getElem (by rw [h.len, h'.len])
  intro i h1 h2
  have e1 : D.getD i (-1) = D[i] := by simp [h1]
  have e2 : D'.getD i (-1) = D'[i] := by simp [h2]
  rw [← e1, ← e2]
  have l1 := h.low i
  have l2 := h'.low i
  by_cases hu : 0 ≤ D.getD i (-1)
  · have k1 := key h h' i hu
    have k2 := key h' h i k1.1
    omega
  · by_cases hu' : 0 ≤ D'.getD i (-1)
    · have k2 := key h' h i hu'
      omega
    · omega

/-- The distance of the queue's i-th node. -/
def dv (D W : List Int) (i : Nat) : Int := D.getD (W.getD i 0).toNat (-1)

/-- The search's state: the nodes found so far, in order; their distances; how many have been looked at. -/
structure Bfs (E : Ends) (v : Nat) (W D : List Int) (k : Nat) : Prop where
  len : D.length = E.length
  le : k ≤ W.length
  nodes : ∀ x ∈ W, ∃ u : Nat, x = u ∧ u < E.length
  nodup : W.Nodup
  mem : ∀ u : Nat, u < E.length → ((u : Int) ∈ W ↔ 0 ≤ D.getD u (-1))
  root : (v : Int) ∈ W
  zero : D.getD v (-1) = 0
  low : ∀ u, -1 ≤ D.getD u (-1)
  sound : ∀ u d : Nat, D.getD u (-1) = d → Reach E v d u
  mono : ∀ i j, i ≤ j → j < W.length → dv D W i ≤ dv D W j
  cap : k < W.length → ∀ j < W.length, dv D W j ≤ dv D W k + 1
  done : ∀ i < k, ∀ u : Nat, (u : Int) ∈ adjOf E (W.getD i 0).toNat → 0 ≤ D.getD u (-1) ∧ D.getD u (-1) ≤ dv D W i + 1
  small : ∀ u, D.getD u (-1) < W.length

theorem getD_set {D : List Int} {y : Nat} (hy : y < D.length) (x : Int) (u : Nat) : (D.set y x).getD u (-1) = if u = y then x else D.getD u (-1) := by
  by_cases h : u = y
  · subst h; simp [hy]
  · simp [h, List.getElem?_set_ne (Ne.symm h)]

section
variable {E : Ends} {v k : Nat} {W D : List Int}

theorem Bfs.node (h : Bfs E v W D k) {i : Nat} (hi : i < W.length) : ∃ u : Nat, W[i] = u ∧ W.getD i 0 = u ∧ u < E.length ∧ 0 ≤ D.getD u (-1) ∧ dv D W i = D.getD u (-1) := by
  obtain ⟨u, hu, hul⟩ := h.nodes W[i] (List.getElem_mem hi)
  have hg : W.getD i 0 = u := by simp [hi, hu]
  refine ⟨u, hu, hg, hul, (h.mem u hul).1 (by rw [← hu]; exact List.getElem_mem hi), ?_⟩
  unfold dv
  rw [hg]
  simp

/-- A neighbour that is found now. -/
theorem Bfs.add (h : Bfs E v W D k) (hk : k < W.length) {y : Nat} (hy : y < E.length) (ha : (y : Int) ∈ adjOf E (W.getD k 0).toNat) (hn : D.getD y (-1) < 0) :
    Bfs E v (W ++ [(y : Int)]) (D.set y (dv D W k + 1)) k := by
  have hyD : y < D.length := by rw [h.len]; exact hy
  have hg := getD_set hyD (dv D W k + 1)
  obtain ⟨c, _, hck, hcl, hc0, hcd⟩ := h.node hk
  have hdk : 0 ≤ dv D W k := by omega
  have hold : ∀ i, i < W.length → (W ++ [(y : Int)]).getD i 0 = W.getD i 0 := by
    intro i hi
    simp [List.getElem?_append_left hi]
  have hnew : (W ++ [(y : Int)]).getD W.length 0 = y := by simp
  have hdo : ∀ i, i < W.length → dv (D.set y (dv D W k + 1)) (W ++ [(y : Int)]) i = dv D W i := by
    intro i hi
    obtain ⟨u, _, hu, _, hu0, hud⟩ := h.node hi
    show (D.set y (dv D W k + 1)).getD ((W ++ [(y : Int)]).getD i 0).toNat (-1) = D.getD (W.getD i 0).toNat (-1)
    rw [hold i hi, hu, hg]
    simp only [Int.toNat_natCast]
    rw [if_neg (fun he => by subst he; omega)]
  have hdn : dv (D.set y (dv D W k + 1)) (W ++ [(y : Int)]) W.length = dv D W k + 1 := by
    show (D.set y (dv D W k + 1)).getD ((W ++ [(y : Int)]).getD W.length 0).toNat (-1) = _
    rw [hnew, hg]; simp
  have hyW : (y : Int) ∉ W := fun hm => by have := (h.mem y hy).1 hm; omega
  refine ⟨by simp [h.len], by have := h.le; simp; omega, ?_, ?_, ?_, by simp [h.root], ?_, ?_, ?_, ?_, ?_, ?_, ?_⟩
  · intro x hx
    rcases List.mem_append.1 hx with h1 | h1
    · exact h.nodes x h1
    · exact ⟨y, by simpa using h1, hy⟩
  · rw [List.nodup_append]
    refine ⟨h.nodup, by simp, fun a ha b hb hab => ?_⟩
    rw [List.mem_singleton.1 hb] at hab
    subst hab
    exact hyW ha
  · intro u hu
    rw [hg, List.mem_append, h.mem u hu]
    by_cases he : u = y
    · subst he; simp; omega
    · simp [he]
      omega
  · rw [hg]
    have := h.zero
    rw [if_neg (fun he => by subst he; omega)]
    exact h.zero
  · intro u
    rw [hg]
    split
    · omega
    · exact h.low u
  · intro u d hd
    rw [hg] at hd
    split at hd
    · rename_i he
      subst he
      obtain ⟨e, he⟩ := Int.eq_ofNat_of_zero_le hdk
      obtain rfl : d = e + 1 := by omega
      refine ⟨c, h.sound c e (by rw [← hcd]; exact he), ?_⟩
      rw [hck] at ha
      simpa using ha
    · exact h.sound u d hd
  · intro i j hij hj
    simp at hj
    rcases Nat.lt_or_eq_of_le (Nat.le_of_lt_succ hj) with h1 | h1
    · rw [hdo i (by omega), hdo j h1]; exact h.mono i j hij h1
    · subst h1
      rw [hdn]
      rcases Nat.lt_or_eq_of_le hij with h2 | h2
      · rw [hdo i h2]; exact h.cap hk i h2
      · subst h2; rw [hdn]; exact Int.le_refl _
  · intro _ j hj
    simp at hj
    rw [hdo k hk]
    rcases Nat.lt_or_eq_of_le (Nat.le_of_lt_succ hj) with h1 | h1
    · rw [hdo j h1]; exact h.cap hk j h1
    · subst h1; rw [hdn]; exact Int.le_refl _
  · intro i hi u hu
    rw [hold i (by omega)] at hu
    have := h.done i hi u hu
    rw [hdo i (by omega), hg]
    rw [if_neg (fun he => by subst he; omega)]
    exact this
  · intro u
    rw [hg]
    have h1 := h.small u
    have h2 := h.small c
    simp only [List.length_append, List.length_singleton]
    push_cast
    split <;> omega

/-- All neighbours have been looked at. -/
theorem Bfs.next (h : Bfs E v W D k) (hk : k < W.length) (ha : ∀ u : Nat, (u : Int) ∈ adjOf E (W.getD k 0).toNat → 0 ≤ D.getD u (-1) ∧ D.getD u (-1) ≤ dv D W k + 1) : Bfs E v W D (k + 1) :=
  { h with
    le := hk
    cap := fun hk' j hj => by
      have h1 := h.cap hk j hj
      have h2 := h.mono k (k + 1) (by omega) hk'
      omega
    done := fun i hi u hu => by
      rcases Nat.lt_or_eq_of_le (Nat.le_of_lt_succ hi) with h1 | h1
      · exact h.done i h1 u hu
      · subst h1; exact ha u hu }

theorem adj_lt {y x : Nat} (h : (x : Int) ∈ adjOf E y) : y < E.length := by
  by_cases hy : y < E.length
  · exact hy
  · unfold adjOf rowOf at h
    simp [hy] at h

theorem Bfs.end (h : Bfs E v W D W.length) : Dists E v D := by
  refine ⟨h.len, h.low, h.sound, ?_⟩
  intro j
  induction j with
  | zero =>
    intro x hx
    have hx' : x = v := hx
    subst hx'
    rw [h.zero]
    exact ⟨by omega, by omega⟩
  | succ j ih =>
    rintro x ⟨y, hy, hx⟩
    have hyl := adj_lt hx
    obtain ⟨h0, h1⟩ := ih y hy
    obtain ⟨i, hi, hiy⟩ := List.mem_iff_getElem.1 ((h.mem y hyl).2 h0)
    obtain ⟨u, hu, hug, _, _, hd⟩ := h.node hi
    obtain rfl : u = y := by rw [hiy] at hu; omega
    have := h.done i hi x (by rw [hug]; simpa using hx)
    rw [hd] at this
    refine ⟨this.1, ?_⟩
    have h2 := this.2
    push_cast
    omega

theorem nodup_length : ∀ (n : Nat) (l : List Nat), l.Nodup → (∀ x ∈ l, x < n) → l.length ≤ n
  | 0, l, _, h => by
    cases l with
    | nil => simp
    | cons x r => exact absurd (h x (by simp)) (by omega)
  | n + 1, l, hd, h => by
    have h1 := nodup_length n (l.erase n) (hd.erase n) (fun x hx => by
      have hm := (hd.mem_erase_iff).1 hx
      have := h x hm.2
      omega)
    have h2 : l.length ≤ (l.erase n).length + 1 := by
      rw [List.length_erase]
      split <;> omega
    omega

theorem Bfs.size (h : Bfs E v W D k) : W.length ≤ E.length := by
  have := nodup_length E.length (W.map Int.toNat) (by
    rw [List.nodup_iff_pairwise_ne, List.pairwise_map]
    refine (List.nodup_iff_pairwise_ne.1 h.nodup).imp_of_mem ?_
    intro a b ha hb hab he
    obtain ⟨x, rfl, _⟩ := h.nodes a ha
    obtain ⟨y, rfl, _⟩ := h.nodes b hb
    simp at he
    exact hab (by omega)) (by
    intro x hx
    obtain ⟨a, ha, rfl⟩ := List.mem_map.1 hx
    obtain ⟨u, rfl, hu⟩ := h.nodes a ha
    simpa using hu)
  simpa using this
end

end Go.Proofs.YtnhidomgpbohiaaGreatDoor
end

section
/- The reference's distances from a node. -/
namespace Go.Proofs.YtnhidomgpbohiaaGreatDoor
open Go.GX Go.RowKit
set_option maxRecDepth 100000

/-- What the search keeps in memory: distances, queue, apart from each other. -/
structure BfsMem (w1 w' : World) (b1 b2 : Nat) (E : Ends) (v : Nat) (sD sW : Sl) (D W : List Int) (k : Nat) : Prop where
  ext : Ext w1 w'
  dist : OwnL w' b1 T.t_int sD D
  queue : OwnL w' b2 T.t_int sW W
  bfs : Bfs E v W D k
  lo1 : w1.heap.size ≤ b1
  lo12 : b1 ≤ b2
  lo2 : b2 ≤ w'.heap.size
  sep : ∀ g, sD.v.ownBlock = some g → g < b2

theorem BfsMem.next {w1 w' w'' : World} {b1 b2 : Nat} {E : Ends} {v : Nat} {sD sW : Sl} {D W : List Int} {k : Nat} (h : BfsMem w1 w' b1 b2 E v sD sW D W k) (hE : Ext w' w'') : BfsMem w1 w'' b1 b2 E v sD sW D W k :=
  { h with ext := h.ext.trans hE, dist := h.dist.ext hE, queue := h.queue.ext hE, lo2 := Nat.le_trans h.lo2 hE.size_le }

end Go.Proofs.YtnhidomgpbohiaaGreatDoor
end

section
/- Dominating sets: both sides' tests. -/
namespace Go.Proofs.YtnhidomgpbohiaaGreatDoor
open Go.GX Go.RowKit
set_option maxRecDepth 100000

/-! ### The program's side -/

end Go.Proofs.YtnhidomgpbohiaaGreatDoor
end

section
/- Configuration maps, in plain words: no program in sight. -/
namespace Go.Proofs.YtnhidomgpbohiaaGreatDoor
open Go.GX

theorem EdgeIs.symm {p : Prob} {a b : Int} (h : EdgeIs p a b) : EdgeIs p b a := by
  unfold EdgeIs at h ⊢
  rw [sort2] at h ⊢
  by_cases h1 : a ≤ b
  · rw [if_pos h1] at h
    by_cases h2 : b ≤ a
    · have : a = b := by omega
      subst this
      rwa [if_pos h2]
    · rwa [if_neg h2]
  · rw [if_neg h1] at h
    rwa [if_pos (by omega)]

/-- The labels of configurations beside those of their rows. -/
def pairsOf (C R : List (List Int)) : List (Int × Int) := (C.zip R).flatMap fun u => u.1.zip u.2

structure CmOk (p q : Prob) (rows : List (List Int)) : Prop where
  len : rows.length = p.nodes.length
  row : ∀ r ∈ rows, (r.length : Int) = q.degree ∧ AllIn r 0 (q.labels - 1) ∧ NodeOk q r
  pairs : ∀ u ∈ pairsOf p.nodes rows, ∀ v ∈ pairsOf p.nodes rows, EdgeIs p u.1 v.1 → EdgeIs q u.2 v.2

/-! ### Places -/

structure McAsked (p q : Prob) (rows : List (List Int)) (n : Net) (L : List (List Int)) : Prop where
  left : PGood p
  right : PGood q
  deg : p.degree = q.degree
  map : CmOk p q rows
  good : Good n
  lab : LabOk p n.ends L
  clean : Clean p n.ends L
  full : ∀ r ∈ L, (r.length : Int) = p.degree

end Go.Proofs.YtnhidomgpbohiaaGreatDoor
end

section
/- Configuration maps, both sides. -/
namespace Go.Proofs.YtnhidomgpbohiaaGreatDoor
open Go.GX Go.RowKit
set_option maxRecDepth 100000

/-! ### Two slices of the call's own that lie apart -/

def Aside (s t : Sl) : Prop := ∀ k, s.v.ownBlock = some k → t.v.ownBlock ≠ some k

theorem Aside.symm {s t : Sl} (h : Aside s t) : Aside t s := fun k hk hk' => h k hk' hk

theorem Aside.new {w : World} {base : Nat} {s s' t : Sl} {l : List Int} (h : Aside s t) (ht : OwnL w base T.t_int t l) (hn : NewOr w s s') : Aside s' t := fun k hk hk' => by
  rcases hn with h1 | h1
  · exact h k (by rw [← h1]; exact hk) hk'
  · have h2 := h1 k hk
    have h3 := (ht.blk k hk').2
    omega

/-! ### Whether it is a configuration map: the program -/

/-! ### Whether it is a solution -/

end Go.Proofs.YtnhidomgpbohiaaGreatDoor
end

section
/- Solutions pulled back through the edge step, both sides. -/
namespace Go.Proofs.YtnhidomgpbohiaaGreatDoor
open Go.GX Go.RowKit
set_option maxRecDepth 100000

/-! ### In plain words -/

/-- What is known of a node's labels. -/
structure PullOk (p : Prob) (S r : List Int) : Prop where
  labs : ∀ x ∈ r, 0 ≤ x ∧ x < (S.length : Nat)
  len : r.length ≤ 1000
  some : (r.length : Int) = p.degree → (firstC (nodeB p) (listsAt S r) []).isSome = true

structure SetsOk (S : List Int) : Prop where
  pos : ∀ x ∈ S, ∃ m : Nat, x = m ∧ 1 ≤ m ∧ m < 256

theorem SetsOk.byte {S : List Int} (h : SetsOk S) : ∀ x ∈ S, ∃ m : Nat, x = m ∧ m < 256 := fun x hx => by
  obtain ⟨m, h1, _, h3⟩ := h.pos x hx
  exact ⟨m, h1, h3⟩

/-! ### The program -/

end Go.Proofs.YtnhidomgpbohiaaGreatDoor
end

section
/- Solutions pulled back through the edge step: the reference, and what is asked. -/
namespace Go.Proofs.YtnhidomgpbohiaaGreatDoor
open Go.GX Go.RowKit
set_option maxRecDepth 100000

/-- Slices that read as lists, apart from the slice that holds them. -/
def AlD (w : World) (s : Sl) (ss : List Sl) (L : List (List Int)) : Prop := ss.length = L.length ∧ ∀ i (h1 : i < ss.length) (h2 : i < L.length), SlR (fun b => ¬ oB s b) w ss[i] L[i]

theorem AlD.ext {w w' : World} {s : Sl} {ss : List Sl} {L : List (List Int)} (h : AlD w s ss L) (hE : Ext w w') : AlD w' s ss L := ⟨h.1, fun i h1 h2 => (h.2 i h1 h2).ext hE⟩

/-! ### What is asked -/

structure PeAsked (p : Prob) (n : Net) (L : List (List Int)) : Prop where
  good : edGood p
  net : Good n
  lab : LabOk (edgeP p) n.ends L
  clean : Clean (edgeP p) n.ends L

theorem edge_made {p : Prob} (h : edGood p) : PGood (edgeP p) := (EdAsked.mk h.1 h.2).made

theorem edge_small {p : Prob} (h : edGood p) : SmallP (edgeP p) := by
  have hd := h.1.deg
  have h1 := h.2.2
  exact ⟨small_filter (k := p.degree.toNat) h1 (by omega) _, small_filter (k := 2) h1 (by omega) _⟩

end Go.Proofs.YtnhidomgpbohiaaGreatDoor
end

section
/- Labels pulled through the node step: plain. -/
namespace Go.Proofs.YtnhidomgpbohiaaGreatDoor
open Go.GX Go.RowKit
set_option maxRecDepth 100000

def Stubless (E : Ends) : Prop := ∀ v i, port E v i ≠ some ((v : Int), (i : Int))

structure PnAsked (p : Prob) (n : Net) (L : List (List Int)) : Prop where
  good : ndGood p
  net : Good n
  stub : Stubless n.ends
  lab : LabOk (nodeP p) n.ends L
  clean : Clean (nodeP p) n.ends L

end Go.Proofs.YtnhidomgpbohiaaGreatDoor
end

section
/- Labels pulled through the node step, both sides. -/
namespace Go.Proofs.YtnhidomgpbohiaaGreatDoor
open Go.GX Go.RowKit
set_option maxRecDepth 100000

theorem get_of {l : List Int} {k : Nat} (hk : k < l.length) : l.getD k 0 = l[k] := by rw [List.getD_eq_getElem?_getD, List.getElem?_eq_getElem hk]; rfl

end Go.Proofs.YtnhidomgpbohiaaGreatDoor
end

section
/- One round of elimination, refusals of zero rounds, endless problems: both sides. -/
namespace Go.Proofs.YtnhidomgpbohiaaGreatDoor
open Go.GX Go.RowKit
set_option maxRecDepth 100000

/-- What a round answers. -/
def RdIs (w : World) (q : Prob) (few : Prop) (S : List Int) (x y : Int) (z u _a1 a2 : Sl) (b : Bool) (w' : World) : Prop :=
  Ext w w' ∧ ((b = true ∧ few ∧ x = q.labels ∧ y = q.degree ∧ NewP w.heap.size w' z u a2 q S) ∨ (b = false ∧ ¬ few))

def roundP (p : Prob) : Prob := nodeP (edgeP p)
def rdFew (p : Prob) : Prop := edFew p ∧ ndFew (edgeP p)
def rdGood (p : Prob) : Prop := PGood p ∧ rdFew p

theorem made_round {p : Prob} (hg : PGood p) (h : rdFew p) : PGood (roundP p) := node_made' (edge_made ⟨hg, h.1⟩) h.2
where node_made' {q : Prob} (hq : PGood q) (h : ndFew q) : PGood (nodeP q) := (NdAsked.mk hq h.1 h.2).made

theorem small_round {p : Prob} (hg : PGood p) (h : rdFew p) : SmallP (roundP p) := by
  have hq := edge_made ⟨hg, h.1⟩
  have hd := hq.deg
  have h1 := h.2.2.2
  exact ⟨small_filter (k := (edgeP p).degree.toNat) h1 (by omega) _, small_filter (k := 2) h1 (by omega) _⟩

theorem eliminate_ok {w : World} {c d : Sl} {p : Prob} (h : RProb w c d p) (hs : SmallP p) (hg : PGood p) :
    Calls Tryz.prog F.i_eliminate #[.agg #[.int .i64 p.labels, .int .i64 p.degree, c.v, d.v]] w (Ret [.agg [.int .i64, .int .i64, .sl, .sl], .at .sl, .at .sl, .at .bool] (RdIs w (roundP p) (rdFew p) (nodeSets (edgeP p)))) := by
  refine C_i_eliminate ?_
  unfold V_i_eliminate
  refine NEW_intro fun pp w1 hp1 hs1 hE1 hb1 => NEW_intro fun px w2 hp2 hs2 hE2 hb2 => ?_
  have hE := hE1.trans hE2
  have hz1 := hE1.size_le
  replace h := h.ext hE
  replace hb1 := hb1.ext hE2
  refine LD_iiss hb1 ?_
  refine call (edgeStep_ok h hs hg) ?_
  rintro x y z u a b w3 ⟨hE3, hr⟩
  replace hE := hE.ext hE3
  replace hb1 := hb1.ext hE3
  replace hb2 := hb2.ext hE3
  refine NEW_ST (one4p _ _ _ _) rfl fun pq w5 hpq hE5 hbq => ?_
  replace hE := hE.ext hE5
  replace hb1 := hb1.ext hE5
  replace hb2 := hb2.ext hE5
  rcases hr with ⟨rfl, hfe, rfl, rfl, hP⟩ | ⟨rfl, hno⟩
  · replace hP := hP.ext hE5
    have hgq := edge_made ⟨hg, hfe⟩
    refine cond_not (fun hf => by cases hf) (fun _ => LD_iiss hbq ?_)
    refine call (nodeStep_ok (p := edgeP p) hP.prob (edge_small ⟨hg, hfe⟩) hgq) ?_
    rintro x' y' z' u' a' b' w7 ⟨hE7, hr'⟩
    have hz5 := hE.size_le
    have hl2 := hb2.lt
    replace hE := hE.ext hE7
    replace hb1 := hb1.ext hE7
    replace hb2 := hb2.ext hE7
    refine NEW_ST (one4p _ _ _ _) rfl fun pr w9 hpr hE9 hbr => ?_
    replace hE := hE.ext hE9
    replace hb1 := hb1.ext hE9
    replace hb2 := hb2.ext hE9
    rcases hr' with ⟨rfl, hfn, rfl, rfl, hP'⟩ | ⟨rfl, hno'⟩
    · refine cond_not (fun hf => by cases hf) (fun _ => LD_iiss hbr ?_)
      refine ST_all hb2 (one4p _ _ _ _) rfl fun w11 hs11 hz11 hb11 => LD_iiss hb11 ?_
      exact ⟨hs11.ext0 hE fun k hk => by cases hk; omega, .inl ⟨rfl, ⟨hfe, hfn⟩, rfl, rfl, ((hP'.ext hE9).step hs11 (by omega)).low hz5⟩⟩
    · refine cond_not (fun _ => ?_) (fun ht => by cases ht)
      exact zero_problem hE hb2 (by omega) fun w' hE' => ⟨hE', .inr ⟨rfl, fun hA => hno' hA.2⟩⟩
  · refine cond_not (fun _ => ?_) (fun ht => by cases ht)
    exact zero_problem hE hb2 (by omega) fun w' hE' => ⟨hE', .inr ⟨rfl, fun hA => hno hA.1⟩⟩

theorem sEliminateRound_ok {w : World} {c d : Sl} {p : Prob} (h : RProb w c d p) :
    Calls Tryz.prog F.s_EliminateRound #[.agg #[.int .i64 p.labels, .int .i64 p.degree, c.v, d.v]] w (Ret [.agg [.int .i64, .int .i64, .sl, .sl], .at .sl, .at .sl, .at .bool] (RdIs w (roundP p) (rdGood p) (nodeSets (edgeP p)))) := by
  refine C_s_EliminateRound ?_
  unfold V_s_EliminateRound
  refine NEW_intro fun pp w1 hp1 hs1 hE1 hb1 => NEW_intro fun px w2 hp2 hs2 hE2 hb2 => ?_
  have hE := hE1.trans hE2
  have hz1 := hE1.size_le
  replace h := h.ext hE
  replace hb1 := hb1.ext hE2
  refine LD_iiss hb1 ?_
  refine call (sEdgeStep_ok h) ?_
  rintro x y z u a b w3 ⟨hE3, hr⟩
  replace hE := hE.ext hE3
  replace hb1 := hb1.ext hE3
  replace hb2 := hb2.ext hE3
  refine NEW_ST (one4p _ _ _ _) rfl fun pq w5 hpq hE5 hbq => ?_
  replace hE := hE.ext hE5
  replace hb1 := hb1.ext hE5
  replace hb2 := hb2.ext hE5
  rcases hr with ⟨rfl, hfe, rfl, rfl, hP⟩ | ⟨rfl, hno⟩
  · replace hP := hP.ext hE5
    have hgq := edge_made hfe
    refine cond_not (fun hf => by cases hf) (fun _ => LD_iiss hbq ?_)
    refine call (elNode_ok (p := edgeP p) hP.prob hgq) ?_
    rintro x' y' z' u' a' b' w7 ⟨hE7, hr'⟩
    have hz5 := hE.size_le
    have hl2 := hb2.lt
    replace hE := hE.ext hE7
    replace hb1 := hb1.ext hE7
    replace hb2 := hb2.ext hE7
    refine NEW_ST (one4p _ _ _ _) rfl fun pr w9 hpr hE9 hbr => ?_
    replace hE := hE.ext hE9
    replace hb1 := hb1.ext hE9
    replace hb2 := hb2.ext hE9
    rcases hr' with ⟨rfl, hfn, rfl, rfl, hP'⟩ | ⟨rfl, hno'⟩
    · refine cond_not (fun hf => by cases hf) (fun _ => LD_iiss hbr ?_)
      refine ST_all hb2 (one4p _ _ _ _) rfl fun w11 hs11 hz11 hb11 => LD_iiss hb11 ?_
      exact ⟨hs11.ext0 hE fun k hk => by cases hk; omega, .inl ⟨rfl, ⟨hfe.1, hfe.2, hfn⟩, rfl, rfl, ((hP'.ext hE9).step hs11 (by omega)).low hz5⟩⟩
    · refine cond_not (fun _ => ?_) (fun ht => by cases ht)
      exact zero_problem hE hb2 (by omega) fun w' hE' => ⟨hE', .inr ⟨rfl, fun hA => hno' hA.2.2⟩⟩
  · refine cond_not (fun _ => ?_) (fun ht => by cases ht)
    exact zero_problem hE hb2 (by omega) fun w' hE' => ⟨hE', .inr ⟨rfl, fun hA => hno ⟨hA.1, hA.2.1⟩⟩⟩

/-! ### Refusals of zero rounds -/

def zTwo (p : Prob) (r c : List Int) : Bool := decide (r.length = 2) && (c.contains (r.getD 0 0) && (c.contains (r.getD 1 0) && !(edgeB p (r.getD 0 0) (r.getD 1 0))))
def ZOk (p : Prob) (ps : List (List Int)) : Prop := ps.length = p.nodes.length ∧ ∀ i, i < p.nodes.length → zTwo p (ps.getD i []) (p.nodes.getD i []) = true

theorem ZOk.no {p : Prob} {ps : List (List Int)} {i : Nat} (hi : i < p.nodes.length) (hf : zTwo p (ps.getD i []) (p.nodes.getD i []) = false) : ¬ ZOk p ps := fun h => by
  have := h.2 i hi
  rw [hf] at this; cases this

theorem isZeroRefusal_ok {w : World} {c d s : Sl} {p : Prob} {ps : List (List Int)} (h : RProb w c d p) (hg : PGood p) (hs : SmallP p) (hps : R w s ps) :
    Calls Tryz.prog F.i_isZeroRefusal #[.agg #[.int .i64 p.labels, .int .i64 p.degree, c.v, d.v], s.v] w (Ret [.at .bool] fun (x : Bool) w' => (x = true ↔ ZOk p ps) ∧ Ext w w') := by
  refine C_i_isZeroRefusal ?_
  unfold V_i_isZeroRefusal
  refine NEW_intro fun pp w1 hp1 hs1 hE hb1 => LD_bs2 hb1 ?_
  replace h := h.ext hE
  replace hps := hps.ext hE
  have hno : ∀ {w' : World}, Ext w w' → ¬ ZOk p ps → (false = true ↔ ZOk p ps) ∧ Ext w w' := fun h1 h2 => ⟨by simp [h2], h1⟩
  rw [hps.len, h.nodes.len]
  refine cond_ne (fun hne => hno hE fun hZ => hne (by rw [hZ.1])) (fun heq => ?_)
  have hlen : ps.length = p.nodes.length := by have : (ps.length : Int) = p.nodes.length := heq; omega
  refine ⟨IN ps.length fun i w' => Ext w1 w' ∧ ∀ u, u < i → zTwo p (ps.getD u []) (p.nodes.getD u []) = true, MN ps.length, IN_zero ⟨Ext.refl _, fun u hu => absurd hu (by omega)⟩, ?_⟩
  rintro _ w2 ⟨i, rfl, hi, hE2, hI⟩
  intros
  refine cond_dec (fun hlt => ?_) (fun hge => ⟨⟨fun _ => ⟨hlen, fun u hu => hI u (by omega)⟩, fun _ => rfl⟩, hE.trans hE2⟩)
  have hi' : i < ps.length := by omega
  have hin : i < p.nodes.length := by omega
  have hg1 : ps.getD i [] = ps[i] := rowD hi'
  have hg2 : p.nodes.getD i [] = p.nodes[i] := rowD hin
  replace h := h.ext hE2
  replace hps := hps.ext hE2
  replace hb1 := hb1.ext hE2
  have hbad : ∀ {w' : World}, Ext w2 w' → zTwo p ps[i] p.nodes[i] = false → (false = true ↔ ZOk p ps) ∧ Ext w w' := fun hE' hf => hno (hE.trans (hE2.trans hE')) (ZOk.no hin (by rw [hg1, hg2]; exact hf))
  refine hps.ixL hi' fun q row hrow hc => LD_sl hc ?_
  rw [hrow.len]
  refine cond_ne (fun hne => fun w3 hE3 => hbad hE3 ?_) (fun heq2 => ?_)
  · have : ps[i].length ≠ 2 := by intro he; exact hne (by rw [he]; rfl)
    simp [zTwo, this]
  have hl2 : ps[i].length = 2 := by have : (ps[i].length : Int) = 2 := heq2; omega
  have h64 := flat_ok hrow.any
  have e0 : ps[i].getD 0 0 = ps[i][0] := get_of (by omega)
  have e1 : ps[i].getD 1 0 = ps[i][1] := get_of (by omega)
  have hd2 : decide (ps[i].length = 2) = true := decide_eq_true hl2
  have hz : zTwo p ps[i] p.nodes[i] = (p.nodes[i].contains ps[i][0] && (p.nodes[i].contains ps[i][1] && !(edgeB p ps[i][0] ps[i][1]))) := by
    unfold zTwo
    rw [e0, e1, hd2, Bool.true_and]
  refine LD_bs2 hb1 ?_
  refine h.nodes.ixL hin fun qn rown hrown hcn => LD_sl hcn ?_
  refine hrow.ixI (i := 0) (by omega) fun q0 hI0 hc0 => LD_int hc0 ?_
  refine QCALL_bool (p.nodes[i].contains ps[i][0]) (fun w' hw' => call (contains_ok (hrown.any.ext hw') _) fun x w'' hx => ⟨hx.1, hx.2 ▸ Ext.refl _⟩) ?_
  refine cond_not (fun hf => fun w4 hE4 => hbad hE4 (by rw [hz, hf]; rfl)) (fun ht0 => LD_bs2 hb1 ?_)
  refine h.nodes.ixL hin fun qn2 rown2 hrown2 hcn2 => LD_sl hcn2 ?_
  refine hrow.ixI (i := 1) (by omega) fun q1 hI1 hc1 => LD_int hc1 ?_
  refine QCALL_bool (p.nodes[i].contains ps[i][1]) (fun w' hw' => call (contains_ok (hrown2.any.ext hw') _) fun x w'' hx => ⟨hx.1, hx.2 ▸ Ext.refl _⟩) ?_
  refine cond_not (fun hf => fun w4 hE4 => hbad hE4 (by rw [hz, ht0, hf]; rfl)) (fun ht1 => LD_iiss hb1 ?_)
  refine hrow.ixI (i := 0) (by omega) fun q0 hI0 hc0 => LD_int hc0 ?_
  refine hrow.ixI (i := 1) (by omega) fun q1 hI1 hc1 => LD_int hc1 ?_
  refine QCALL_bool (edgeB p ps[i][0] ps[i][1]) (edgeQ h hs hg hI0 hI1) ?_
  intro w6 hE6
  refine cond_b (fun ht => hbad hE6 (by rw [hz, ht0, ht1, ht]; rfl)) (fun hf => ?_)
  refine IN_next (by have := hps.le; omega) hi' ⟨hE2.trans hE6, fun u hu => ?_⟩
  by_cases hui : u = i
  · subst hui; rw [hg1, hg2, hz, ht0, ht1, hf]; rfl
  · exact hI u (by omega)

theorem zeTwo_ok {w : World} {c d s x y : Sl} {p : Prob} {r l : List Int} (h : RProb w c d p) (hr : R w s r) (hx : R w x l) (hy : R w y l) :
    Calls Tryz.prog F.s_zeTwo #[.agg #[.int .i64 p.labels, .int .i64 p.degree, c.v, d.v], s.v, x.v, y.v] w (Ret [.at .bool] fun (b : Bool) w' => b = zTwo p r l ∧ Ext w w') := by
  refine C_s_zeTwo ?_
  unfold V_s_zeTwo
  refine NEW_intro fun pp w1 hp1 hs1 hE hb1 => ?_
  replace h := h.ext hE
  replace hr := hr.ext hE
  replace hx := hx.ext hE
  replace hy := hy.ext hE
  rw [hr.len]
  refine cond_eq (fun heq => ?_) (fun hne => fun w5 hE5 => ⟨?_, hE.trans hE5⟩)
  · have hl2 : r.length = 2 := by have : (r.length : Int) = 2 := heq; omega
    have e0 : r.getD 0 0 = r[0] := get_of (by omega)
    have e1 : r.getD 1 0 = r[1] := get_of (by omega)
    have hd2 : decide (r.length = 2) = true := decide_eq_true hl2
    have hz : zTwo p r l = (l.contains r[0] && (l.contains r[1] && !(edgeB p r[0] r[1]))) := by
      unfold zTwo
      rw [e0, e1, hd2, Bool.true_and]
    refine hr.ixI (i := 0) (by omega) fun q0 hI0 hc0 => LD_int hc0 ?_
    refine QCALL_bool (l.contains r[0]) (fun w' hw' => call (l1Has_ok (hx.ext hw') _) fun x w'' hx => ⟨hx.1, hx.2 ▸ Ext.refl _⟩) ?_
    refine cond_b (fun ht0 => ?_) (fun hf => fun w4 hE4 => ⟨by rw [hz, hf]; rfl, hE.trans hE4⟩)
    refine hr.ixI (i := 1) (by omega) fun q1 hI1 hc1 => LD_int hc1 ?_
    refine QCALL_bool (l.contains r[1]) (fun w' hw' => call (l1Has_ok (hy.ext hw') _) fun x w'' hx => ⟨hx.1, hx.2 ▸ Ext.refl _⟩) ?_
    refine cond_b (fun ht1 => LD_iiss hb1 ?_) (fun hf => fun w4 hE4 => ⟨by rw [hz, ht0, hf]; rfl, hE.trans hE4⟩)
    refine hr.ixI (i := 0) (by omega) fun q0 hI0 hc0 => LD_int hc0 ?_
    refine hr.ixI (i := 1) (by omega) fun q1 hI1 hc1 => LD_int hc1 ?_
    refine QCALL_bool (edgeB p r[0] r[1]) (prEdgeQ h hI0 hI1) ?_
    intro w2 hE2
    exact ⟨by rw [hz, ht0, ht1]; rfl, hE.trans hE2⟩
  · have : r.length ≠ 2 := by intro he; exact hne (by rw [he]; rfl)
    simp [zTwo, this]

theorem boZero_ok {w : World} {c d s : Sl} {p : Prob} {ps : List (List Int)} (h : RProb w c d p) (hg : PGood p) (hps : R w s ps) :
    Calls Tryz.prog F.s_boZero #[.agg #[.int .i64 p.labels, .int .i64 p.degree, c.v, d.v], s.v] w (Ret [.at .bool] fun (x : Bool) w' => (x = true ↔ ZOk p ps) ∧ Ext w w') := by
  refine C_s_boZero ?_
  unfold V_s_boZero
  refine NEW_intro fun p0 w1 hp1 hs1 hE hb0 => LD_iiss hb0 ?_
  replace h := h.ext hE
  replace hps := hps.ext hE
  refine C_s_CheckZeroRefusal ?_
  unfold V_s_CheckZeroRefusal
  refine NEW_intro fun pp w2 hp2 hs2 hE2 hb1 => LD_iiss hb1 ?_
  have hno : ∀ {w' : World}, Ext w w' → ¬ ZOk p ps → (false = true ↔ ZOk p ps) ∧ Ext w w' := fun h1 h2 => ⟨by simp [h2], h1⟩
  replace hE := hE.ext hE2
  replace h := h.ext hE2
  replace hps := hps.ext hE2
  refine call (prGood_ok h) ?_
  rintro x w3 ⟨hx, hE3⟩
  replace hE := hE.ext hE3
  replace h := h.ext hE3
  replace hps := hps.ext hE3
  replace hb1 := hb1.ext hE3
  refine cond_not (fun hf => by rw [hx.2 hg] at hf; cases hf) (fun _ => LD_bs2 hb1 ?_)
  rw [hps.len, h.nodes.len]
  refine cond_ne (fun hne => hno hE fun hZ => hne (by rw [hZ.1])) (fun heq => LD_bs2 hb1 ?_)
  have hlen : ps.length = p.nodes.length := by have : (ps.length : Int) = p.nodes.length := heq; omega
  rw [h.nodes.len]
  refine ⟨IN p.nodes.length fun i w' => Ext w3 w' ∧ ∀ u, u < i → zTwo p (ps.getD u []) (p.nodes.getD u []) = true, MN p.nodes.length, IN_zero ⟨Ext.refl _, fun u hu => absurd hu (by omega)⟩, ?_⟩
  rintro _ w4 ⟨i, rfl, hi, hE4, hI⟩
  intros
  refine cond_dec (fun hlt => ?_) (fun hge => ⟨⟨fun _ => ⟨hlen, fun u hu => hI u (by omega)⟩, fun _ => rfl⟩, hE.trans hE4⟩)
  have hin : i < p.nodes.length := by omega
  have hi' : i < ps.length := by omega
  have hg1 : ps.getD i [] = ps[i] := rowD hi'
  have hg2 : p.nodes.getD i [] = p.nodes[i] := rowD hin
  replace h := h.ext hE4
  replace hps := hps.ext hE4
  replace hb1 := hb1.ext hE4
  refine h.nodes.ixL hin fun qn rown hrown hcn => LD_sl hcn (LD_iiss hb1 ?_)
  refine hps.ixL hi' fun q row hrow hc => LD_sl hc ?_
  refine QCALL_bool (zTwo p ps[i] p.nodes[i]) (fun w' hw' => zeTwo_ok (h.ext hw') (hrow.any.ext hw') (hrown.any.ext hw') (hrown.any.ext hw')) ?_
  intro w5 hE5
  refine cond_not (fun hf => hno (hE.trans (hE4.trans hE5)) (ZOk.no hin (by rw [hg1, hg2]; exact hf))) (fun ht => ?_)
  refine IN_next (by have := h.nodes.le; omega) hin ⟨hE4.trans hE5, fun u hu => ?_⟩
  by_cases hui : u = i
  · subst hui; rw [hg1, hg2]; exact ht
  · exact hI u (by omega)

/-! ### Endless problems -/

def EdAns (p : Prob) (f : List Int) (ps : List (List Int)) (x ok : Bool) : Prop := (ok = true ∧ rdGood p ∧ (x = true ↔ MapOk (roundP p) p f ∧ ZOk p ps)) ∨ (ok = false ∧ x = false ∧ ¬ rdGood p)

theorem EdAns.eq {p : Prob} {f : List Int} {ps : List (List Int)} {x ok y ok' : Bool} (h : EdAns p f ps x ok) (h' : EdAns p f ps y ok') : x = y ∧ ok = ok' := by
  rcases h with ⟨rfl, h1, h2⟩ | ⟨rfl, rfl, h1⟩
  · rcases h' with ⟨rfl, _, h3⟩ | ⟨rfl, rfl, h3⟩
    · exact ⟨by rw [Bool.eq_iff_iff, h2, h3], rfl⟩
    · exact absurd h1 h3
  · rcases h' with ⟨rfl, h3, _⟩ | ⟨rfl, rfl, h3⟩
    · exact absurd h3 h1
    · exact ⟨rfl, rfl⟩
end Go.Proofs.YtnhidomgpbohiaaGreatDoor
end

section
/- Lists of problems as arguments. -/
namespace Go.Proofs.YtnhidomgpbohiaaGreatDoor
open Go.GX Go.RowKit
set_option maxRecDepth 100000

instance : Rep Prob where
  sz := 4
  rep D w cs q := ∃ z u : Sl, cs = [.int .i64 q.labels, .int .i64 q.degree, z.v, u.v] ∧ I64 q.labels ∧ I64 q.degree ∧ SlR D w z q.nodes ∧ SlR D w u q.edges
  len h := by obtain ⟨z, u, rfl, _⟩ := h; rfl
  agr hE h := by obtain ⟨z, u, rfl, a, b, c, d⟩ := h; exact ⟨z, u, rfl, a, b, c.agr hE, d.agr hE⟩
  weak hD h := by obtain ⟨z, u, rfl, a, b, c, d⟩ := h; exact ⟨z, u, rfl, a, b, c.weak hD RepP.pos, d.weak hD RepP.pos⟩
instance : RepP Prob := ⟨by decide⟩

/-- The cells of a problem at a place. -/
def PCells (w : World) (p : Addr) (q : Prob) (z u : Sl) : Prop := ∀ (j : Nat) (v : Value), [Value.int .i64 q.labels, .int .i64 q.degree, z.v, u.v][j]? = some v → w.cell? (p.add j) = some v

theorem LD_pcells {w : World} {p : Addr} {q : Prob} {z u : Sl} {K : Int → Int → Sl → Sl → Prop} (hc : PCells w p q z u) (hk : K q.labels q.degree z u) : LD [.int .i64, .int .i64, .sl, .sl] p w K :=
  ⟨[.int .i64 q.labels, .int .i64 q.degree, z.v, u.v], rfl, fun i v hv => hc i v hv, hk⟩
theorem LD_pdeg {w : World} {p : Addr} {q : Prob} {z u : Sl} {K : Int → Prop} (hc : PCells w p q z u) (hk : K q.degree) : LD [.int .i64] (p.add 1) w K := LD_int (hc 1 _ rfl) hk

theorem slr_ixP {D : Nat → Prop} {w : World} {s : Sl} {l : List Prob} (h : SlR D w s l) {i : Nat} (hi : i < l.length) {K : Addr → Prop} (hk : ∀ p z u, RProb w z u l[i] → PCells w p l[i] z u → K p) : IX s i 4 K :=
  h.ix rfl (by omega) (by omega) fun p cs hr hc => by
    obtain ⟨z, u, rfl, a, b, c, d⟩ := hr
    exact hk p z u ⟨a, b, c.any, d.any⟩ hc

theorem szProblemS_ok {w : World} {a : Sl} {l : List Prob} (h : R w a l) (left : Int) (h0 : 0 ≤ left) (h1 : left ≤ 1048576) :
    Calls Tryz.prog F.l_szProblemS #[a.v, .int .i64 left] w (Ret [.at (.int .i64)] fun (x : Int) w' => (0 ≤ x → x ≤ left ∧ l.length ≤ left ∧ ∀ q ∈ l, SmallP q) ∧ Ext w w') := by
  refine C_l_szProblemS ?_
  unfold V_l_szProblemS
  have := h.le
  rw [h.len, wrap_of (by omega) (by omega)]
  refine cond_dec (fun _ => ⟨by omega, Ext.refl _⟩) (fun hle => ?_)
  refine ⟨fun (y x : Int) w' => Ext w w' ∧ 0 ≤ y ∧ y ≤ left ∧ ∃ i : Nat, x = i ∧ i ≤ l.length ∧ ∀ q ∈ l.take i, SmallP q, fun _ x _ => l.length - x.toNat, ⟨Ext.refl _, by omega, by omega, 0, rfl, by omega, by simp⟩, ?_⟩
  rintro y x w1 ⟨hE1, hy0, hy, i, rfl, hi, hr⟩
  intros
  refine cond_dec (fun hlt => ?_) (fun hge => ⟨fun _ => ⟨hy, by omega, ?_⟩, hE1⟩)
  · have hi' : i < l.length := by omega
    refine slr_ixP (h.ext hE1) hi' fun p z u hP hc => LD_pcells hc ?_
    refine call (szProblem_ok hP y hy0 (by omega)) ?_
    rintro v w2 ⟨hv, hE2⟩
    refine cond_dec (fun _ => ⟨by omega, hE1.trans hE2⟩) (fun hv0 => ?_)
    obtain ⟨hs, hvl⟩ := hv (by omega)
    rw [wrap_of (by omega) (by omega)]
    refine ⟨⟨hE1.trans hE2, by omega, by omega, i + 1, by omega, hi', fun q hq => ?_⟩, by simp only []; omega⟩
    rw [List.take_succ_eq_append_getElem hi'] at hq
    rcases List.mem_append.1 hq with h2 | h2
    · exact hr q h2
    · rw [List.mem_singleton.1 h2]; exact hs
  · have : i = l.length := by omega
    subst this
    rwa [List.take_length] at hr

theorem eqProblemS_ok {w : World} {a b : Sl} {l : List Prob} (h : R w a l) (h' : R w b l) :
    Calls Tryz.prog F.l_eqProblemS #[a.v, b.v] w (Ret [.at .bool] fun (r : Bool) w' => r = true ∧ Ext w w') := by
  refine C_l_eqProblemS ?_
  unfold V_l_eqProblemS
  rw [h.len, h'.len]
  refine cond_ne (fun hne => absurd rfl hne) (fun _ => ?_)
  refine ⟨IN l.length fun i w' => Ext w w', MN l.length, IN_zero (Ext.refl _), ?_⟩
  rintro _ w1 ⟨i, rfl, hi, hE1⟩
  intros
  refine cond_dec (fun hlt => ?_) (fun hge => ⟨rfl, hE1⟩)
  have hi' : i < l.length := by omega
  refine slr_ixP (h.ext hE1) hi' fun p z u hP hc => LD_pcells hc ?_
  refine slr_ixP (h'.ext hE1) hi' fun p' z' u' hP' hc' => LD_pcells hc' ?_
  refine QCALL_bool true (fun w' hw' => eqProblem_ok (hP.ext hw') (hP'.ext hw')) ?_
  intro w2 hE2
  refine cond_not (fun hf => by cases hf) (fun _ => IN_next h.le hi' (hE1.trans hE2))

/-! ### Copies of lists of problems -/

/-- What the cells of a copy hold. -/
structure PRec where
  x : Int
  y : Int
  z : Sl
  u : Sl

instance : Rep PRec where
  sz := 4
  rep _ _ cs r := cs = [.int .i64 r.x, .int .i64 r.y, r.z.v, r.u.v]
  len h := by rw [h]; rfl
  agr _ h := h
  weak _ h := h
instance : RepP PRec := ⟨by decide⟩
instance : Flat PRec where
  cells r := [.int .i64 r.x, .int .i64 r.y, r.z.v, r.u.v]
  ok _ := True
  size _ := rfl
  one r v hv := one4p r.x r.y r.z r.u v hv
  repOk _ := rfl
  ofRep h := ⟨h, trivial⟩

theorem slt_prob : SlT Tryz.prog T.t_sl_i_Problem T.t_i_Problem 4 64 (.agg #[.int .i64 0, .int .i64 0, .slice none 0 0, .slice none 0 0]) := ⟨by kernel_rfl, by kernel_rfl, rfl, by decide⟩

/-- A record that stands for a problem, its lists in blocks from a number on. -/
structure RecOf (D : Nat → Prop) (w : World) (r : PRec) (q : Prob) : Prop where
  x : r.x = q.labels
  y : r.y = q.degree
  lab : I64 q.labels
  deg : I64 q.degree
  nodes : SlR D w r.z q.nodes
  edges : SlR D w r.u q.edges

theorem RecOf.ext {D : Nat → Prop} {w w' : World} {r : PRec} {q : Prob} (h : RecOf D w r q) (hE : Ext w w') : RecOf D w' r q := ⟨h.x, h.y, h.lab, h.deg, h.nodes.ext hE, h.edges.ext hE⟩
theorem RecOf.step {D : Nat → Prop} {w w' : World} {r : PRec} {q : Prob} {g : Option Nat} (h : RecOf D w r q) (hs : Step w w' g) (hD : ∀ b, D b → g ≠ some b) : RecOf D w' r q := ⟨h.x, h.y, h.lab, h.deg, h.nodes.stepD hs hD, h.edges.stepD hs hD⟩

theorem recs_rep {w : World} {base : Nat} {e : TypeId} {s : Sl} {rs : List PRec} {l : List Prob} {D D' : Nat → Prop} (h : OwnL w base e s rs) (hlen : rs.length = l.length) (hr : ∀ j (h1 : j < rs.length) (h2 : j < l.length), RecOf D w rs[j] l[j]) (hD : ∀ b, D b → D' b) (hb : ∀ b, base ≤ b → D' b) : SlR D' w s l := by
  have h0 := h.rep (fun _ _ => trivial)
  refine ⟨by rw [h0.1, hlen], h0.2.1, fun i x hx => ?_⟩
  obtain ⟨h2, rfl⟩ := List.getElem?_eq_some_iff.1 hx
  have h1 : i < rs.length := by omega
  obtain ⟨a, cs, ha, hb', hcs, hc⟩ := h0.2.2 i rs[i] (by simp [h1])
  have hcs' : cs = [.int .i64 rs[i].x, .int .i64 rs[i].y, rs[i].z.v, rs[i].u.v] := hcs
  subst hcs'
  have hR := hr i h1 h2
  exact ⟨a, _, ha, hb _ hb', ⟨rs[i].z, rs[i].u, by rw [hR.x, hR.y], hR.lab, hR.deg, hR.nodes.weak (fun b h _ => hD b h) RepP.pos, hR.edges.weak (fun b h _ => hD b h) RepP.pos⟩, hc⟩

theorem toProblemS_ok {w : World} {a : Sl} {l : List Prob} (h : R w a l) (hl : l.length ≤ 1048576) (hs : ∀ q ∈ l, SmallP q) :
    Calls Tryz.prog F.l_toProblemS #[a.v] w (Ret [.at .sl] fun (r : Sl) w' => Ext w w' ∧ SlR (fun b => w.heap.size ≤ b) w' r l) := by
  refine C_l_toProblemS ?_
  unfold V_l_toProblemS
  rw [h.len]
  refine RUN_make (α := PRec) slt_prob (d := ⟨0, 0, ⟨none, 0, 0⟩, ⟨none, 0, 0⟩⟩) rfl (by omega) (by unfold maxLen; omega) fun t w1 hE1 hO1 => ?_
  have hz1 := hE1.size_le
  have hto : ∀ k, oB t k → k < w1.heap.size := fun k hk => (hO1.blk k hk).2
  refine ⟨IN l.length fun i w' => Ext w w' ∧ w1.heap.size ≤ w'.heap.size ∧ ∃ rs : List PRec, OwnL w' w.heap.size T.t_i_Problem t rs ∧ rs.length = l.length ∧ ∀ j, j < i → ∀ (h1 : j < rs.length) (h2 : j < l.length), RecOf (fun b => w1.heap.size ≤ b) w' rs[j] l[j], MN l.length, IN_zero ⟨hE1, Nat.le_refl _, _, hO1, by simp, fun j hj => absurd hj (by omega)⟩, ?_⟩
  rintro _ w2 ⟨i, rfl, hi, hE2, hz2, rs, hO2, hrl, hR2⟩
  intros
  refine cond_dec (fun hlt => ?_) (fun hge => ?_)
  · have hi' : i < l.length := by omega
    refine slr_ixP (h.ext hE2) hi' fun p z u hP hc => LD_pcells hc ?_
    refine call (toProblem_own hP (hs _ (List.getElem_mem hi'))) ?_
    rintro _ _ z' u' w3 ⟨rfl, rfl, hE3, mid, hi3, hOP⟩
    have hO3 := hO2.ext hE3
    have hz3 := hE3.size_le
    have hlm := hOP.lom
    have hir : i < rs.length := by omega
    refine IX_own hO3 hir rfl fun q hq => ?_
    refine ST_own hO3 hir hq (⟨l[i].labels, l[i].degree, z', u'⟩ : PRec) rfl fun w4 hO4 hs4 => ?_
    have hz4 := hs4.size
    refine IN_next h.le hi' ⟨hs4.ext0 (hE2.trans hE3) fun k hk => (hO3.blk k hk).1, by omega, _, hO4, by simp [hrl], fun j hj h1 h2 => ?_⟩
    have hne : ∀ b, w1.heap.size ≤ b → t.v.ownBlock ≠ some b := fun b hb he => by have := hto b he; omega
    by_cases hji : j = i
    · subst hji
      rw [List.getElem_set_self]
      refine RecOf.step (w := w3) ⟨rfl, rfl, hP.labels, hP.degree, ?_, ?_⟩ hs4 hne
      · exact (hOP.nodes.repD (flat_okII hP.nodes)).weak (fun b hb _ => by omega) RepP.pos
      · exact (hOP.edges.repD (flat_okII hP.edges)).weak (fun b hb _ => by omega) RepP.pos
    · rw [List.getElem_set_ne (by omega)]
      exact ((hR2 j (by omega) (by simpa using h1) h2).ext hE3).step hs4 hne
  · have : i = l.length := by omega
    subst this
    exact ⟨hE2, recs_rep hO2 hrl (fun j h1 h2 => hR2 j h2 h1 h2) (fun b hb => by have : w1.heap.size ≤ b := hb; show w.heap.size ≤ b; omega) fun b hb => hb⟩

end Go.Proofs.YtnhidomgpbohiaaGreatDoor
end

section
/- Bounds as arguments. -/
namespace Go.Proofs.YtnhidomgpbohiaaGreatDoor
open Go.GX Go.RowKit
set_option maxRecDepth 100000

structure Bnd where
  ps : List Prob
  maps : List (List Int)
  pairs : List (List Int)

structure RBnd (w : World) (a b c : Sl) (B : Bnd) : Prop where
  ps : R w a B.ps
  maps : R w b B.maps
  pairs : R w c B.pairs

theorem RBnd.ext {w w' : World} {a b c : Sl} {B : Bnd} (h : RBnd w a b c B) (hE : Ext w w') : RBnd w' a b c B := ⟨h.ps.ext hE, h.maps.ext hE, h.pairs.ext hE⟩

structure SmallB (B : Bnd) : Prop where
  len : B.ps.length ≤ 1048576
  ps : ∀ q ∈ B.ps, SmallP q
  maps : SmallM B.maps
  pairs : SmallM B.pairs

theorem szBound_ok {w : World} {a b c : Sl} {B : Bnd} (h : RBnd w a b c B) (left : Int) (h0 : 0 ≤ left) (h1 : left ≤ 1048576) :
    Calls Tryz.prog F.l_szBound #[.agg #[a.v, b.v, c.v], .int .i64 left] w (Ret [.at (.int .i64)] fun (x : Int) w' => (0 ≤ x → SmallB B ∧ x ≤ left) ∧ Ext w w') := by
  refine C_l_szBound ?_
  unfold V_l_szBound
  refine NEW_intro fun pa w1 hp hs hE hb => LD_bs0 hb ?_
  replace h := h.ext hE
  refine call (szProblemS_ok h.ps left h0 h1) ?_
  rintro x w2 ⟨hx, hE2⟩
  replace hE := hE.ext hE2
  replace h := h.ext hE2
  replace hb := hb.ext hE2
  refine cond_dec (fun _ => ⟨by omega, hE⟩) (fun hn => LD_bs1 hb ?_)
  obtain ⟨hxl, hl, hsm⟩ := hx (by omega)
  refine call (szIntSS_ok h.maps x (by omega) (by omega)) ?_
  rintro y _ ⟨hy, rfl⟩
  refine cond_dec (fun _ => ⟨by omega, hE⟩) (fun hn2 => LD_bs2 hb ?_)
  obtain ⟨hyl, hm1, hm2⟩ := hy (by omega)
  refine call (szIntSS_ok h.pairs y (by omega) (by omega)) ?_
  rintro z _ ⟨hz, rfl⟩
  refine cond_dec (fun _ => ⟨by omega, hE⟩) (fun hn3 => ⟨fun _ => ?_, hE⟩)
  obtain ⟨hzl, hq1, hq2⟩ := hz (by omega)
  exact ⟨⟨by omega, hsm, ⟨by omega, fun r hr => by have := hm2 r hr; omega⟩, ⟨by omega, fun r hr => by have := hq2 r hr; omega⟩⟩, by omega⟩

theorem eqBound_ok {w : World} {a b c x y z : Sl} {B : Bnd} (h : RBnd w a b c B) (h' : RBnd w x y z B) :
    Calls Tryz.prog F.l_eqBound #[.agg #[a.v, b.v, c.v], .agg #[x.v, y.v, z.v]] w (Ret [.at .bool] fun (r : Bool) w' => r = true ∧ Ext w w') := by
  refine C_l_eqBound ?_
  unfold V_l_eqBound
  refine NEW_intro fun pa w1 hp1 hs1 hE1 hb1 => NEW_intro fun pb w2 hp2 hs2 hE2 hb2 => ?_
  have hE := hE1.trans hE2
  replace h := h.ext hE
  replace h' := h'.ext hE
  replace hb1 := hb1.ext hE2
  refine LD_bs0 hb1 (LD_bs0 hb2 ?_)
  refine call (eqProblemS_ok h.ps h'.ps) ?_
  rintro _ w3 ⟨rfl, hE3⟩
  replace hE := hE.ext hE3
  replace h := h.ext hE3
  replace h' := h'.ext hE3
  replace hb1 := hb1.ext hE3
  replace hb2 := hb2.ext hE3
  refine cond_f (by simp) (LD_bs1 hb1 (LD_bs1 hb2 ?_))
  refine call (eqIntSS_ok h.maps h'.maps) ?_
  rintro _ w4 ⟨rfl, hE4⟩
  replace hE := hE.ext hE4
  replace h := h.ext hE4
  replace h' := h'.ext hE4
  replace hb1 := hb1.ext hE4
  replace hb2 := hb2.ext hE4
  refine cond_f (by simp) (LD_bs2 hb1 (LD_bs2 hb2 ?_))
  refine call (eqIntSS_ok h.pairs h'.pairs) ?_
  rintro _ w5 ⟨rfl, hE5⟩
  exact cond_f (by simp) ⟨rfl, hE.trans hE5⟩

theorem toBound_ok {w : World} {a b c : Sl} {B : Bnd} (h : RBnd w a b c B) (hs : SmallB B) :
    Calls Tryz.prog F.l_toBound #[.agg #[a.v, b.v, c.v]] w (Ret [.agg [.sl, .sl, .sl]] fun (x y z : Sl) w' => Ext w w' ∧ RBnd w' x y z B) := by
  refine C_l_toBound ?_
  unfold V_l_toBound
  refine NEW_intro fun pa w1 hp1 hs1 hE1 hb1 => ?_
  refine NEW_intro fun px w2 hp2 hs2 hE2 hb2 => ?_
  refine NEW_intro fun po w3 hp3 hs3 hE3 hb3 => ?_
  have ha3 := (hb1.ext hE2).ext hE3
  have hx3 := hb2.ext hE3
  have hE : Ext w w3 := (hE1.trans hE2).trans hE3
  have hlt := hb3.lt
  refine LD_bs0 ha3 ?_
  refine call (toProblemS_ok (h.ps.ext hE) hs.len hs.ps) ?_
  rintro x w4 ⟨hE4, hx⟩
  refine ST_box1 (hb3.ext hE4) (by simp) rfl fun w5 hz5 hk5 hX5 hb5 => ?_
  have hE5 := hX5 _ (hE.trans hE4) (by omega)
  have ha5 := (ha3.ext hE4).of_block (hk5 _ (by omega))
  have hx5 := (hx3.ext hE4).of_block (hk5 _ (by omega))
  have hxx5 := hx.agr fun b (hb : w3.heap.size ≤ b) => hk5 b (by omega)
  refine LD_bs1 ha5 ?_
  refine call (toIntSS_own (h.maps.ext hE5) hs.maps.1 hs.maps.2) ?_
  rintro y w6 ⟨hE6, hy⟩
  refine ST_box1 (hb5.ext hE6) (by simp) rfl fun w7 hz7 hk7 hX7 hb7 => ?_
  have hE7 := hX7 _ (hE5.trans hE6) (by omega)
  have ha7 := (ha5.ext hE6).of_block (hk7 _ (by omega))
  have hx7 := (hx5.ext hE6).of_block (hk7 _ (by omega))
  have hz4 := hE4.size_le
  have hxx7 := (hxx5.ext hE6).agr fun b (hb : w3.heap.size ≤ b) => hk7 b (by omega)
  have hyy7 := ((hy.repD (flat_okII h.maps)).agr fun b (hb : w5.heap.size ≤ b) => hk7 b (by omega))
  refine LD_bs2 ha7 ?_
  refine call (toIntSS_own (h.pairs.ext hE7) hs.pairs.1 hs.pairs.2) ?_
  rintro z w8 ⟨hE8, hz⟩
  have hz6 := hE6.size_le
  refine ST_box1 (hb7.ext hE8) (by simp) rfl fun w9 hz9 hk9 hX9 hb9 => ?_
  have hE9 := hX9 _ (hE7.trans hE8) (by omega)
  have hx9 := (hx7.ext hE8).of_block (hk9 _ (by omega))
  have hxx9 := (hxx7.ext hE8).agr fun b (hb : w3.heap.size ≤ b) => hk9 b (by omega)
  have hyy9 := (hyy7.ext hE8).agr fun b (hb : w5.heap.size ≤ b) => hk9 b (by omega)
  have hzz9 := (hz.repD (flat_okII h.pairs)).agr fun b (hb : w7.heap.size ≤ b) => hk9 b (by omega)
  refine LD_box3 hb9 ?_
  refine ST_all hx9 (one3 _ _ _) rfl fun w10 hs10 hz10 hb10 => ?_
  have hpx := hb2.lt
  have hE2s := hE3.size_le
  refine LD_box3 hb10 ⟨hs10.ext0 hE9 (fun k hk => by cases hk; have := hE1.size_le; omega), ?_, ?_, ?_⟩
  · exact (hxx9.stepD hs10 fun b (hb : w3.heap.size ≤ b) he => by cases he; omega).any
  · exact (hyy9.stepD hs10 fun b (hb : w5.heap.size ≤ b) he => by cases he; omega).any
  · exact (hzz9.stepD hs10 fun b (hb : w7.heap.size ≤ b) he => by cases he; omega).any

end Go.Proofs.YtnhidomgpbohiaaGreatDoor
end

section
/- Lists of problems that bounds are made of: both sides. -/
namespace Go.Proofs.YtnhidomgpbohiaaGreatDoor
open Go.GX Go.RowKit
set_option maxRecDepth 100000

def PsIn (ps : List Prob) (q : Prob) : Prop := PGood q ∧ ∀ h : 0 < ps.length, q.degree = ps[0].degree
def PsOk (ps : List Prob) : Prop := (1 ≤ ps.length ∧ ps.length ≤ 7) ∧ ∀ q ∈ ps, PsIn ps q

theorem isQ {w : World} {c d : Sl} {p : Prob} (h : RProb w c d p) : ∃ b : Bool, (b = true ↔ PGood p) ∧ ∀ w', Ext w w' → Calls Tryz.prog F.i_IsProblem #[.agg #[.int .i64 p.labels, .int .i64 p.degree, c.v, d.v]] w' (Ret [.at .bool] fun (c : Bool) w'' => c = b ∧ Ext w' w'') := by
  classical
  exact ⟨decide (PGood p), by simp, fun w' hE => call (IsProblem_ok (h.ext hE)) fun x _ ⟨h1, h2⟩ => ⟨by rw [Bool.eq_iff_iff, h1]; simp, h2⟩⟩
theorem prQ {w : World} {c d : Sl} {p : Prob} (h : RProb w c d p) : ∃ b : Bool, (b = true ↔ PGood p) ∧ ∀ w', Ext w w' → Calls Tryz.prog F.s_prGood #[.agg #[.int .i64 p.labels, .int .i64 p.degree, c.v, d.v]] w' (Ret [.at .bool] fun (c : Bool) w'' => c = b ∧ Ext w' w'') := by
  classical
  exact ⟨decide (PGood p), by simp, fun w' hE => call (prGood_ok (h.ext hE)) fun x _ ⟨h1, h2⟩ => ⟨by rw [Bool.eq_iff_iff, h1]; simp, h2⟩⟩

theorem problemsOk1_ok {w : World} {c d s : Sl} {p : Prob} {ps : List Prob} {pa : Addr} {t : TypeId} (h : RProb w c d p) (hb : Box w pa t [s.v]) (hs : R w s ps) (hl : 0 < ps.length) :
    Calls Tryz.prog F.i_problemsOk_1 #[.agg #[.int .i64 p.labels, .int .i64 p.degree, c.v, d.v], .pointer (some pa)] w (Ret [.at .bool] fun (x : Bool) w' => (x = true ↔ ¬ PsIn ps p) ∧ Ext w w') := by
  refine C_i_problemsOk_1 ?_
  unfold V_i_problemsOk_1
  refine NEW_intro fun pp w1 hp1 hs1 hE hb1 => LD_iiss hb1 ?_
  replace h := h.ext hE
  replace hb := hb.ext hE
  replace hs := hs.ext hE
  obtain ⟨b, hbg, hq⟩ := isQ h
  refine QCALL_bool b hq ?_
  refine cond_not (fun hf => fun w2 hE2 => ⟨?_, hE.trans hE2⟩) (fun ht => LD_bi1 hb1 (LD_bs hb ?_))
  · simp only [true_iff]
    exact fun hA => by rw [hbg.2 hA.1] at hf; cases hf
  · refine slr_ixP (i := 0) hs hl fun q z u hP hc => LD_pdeg hc ?_
    intro w3 hE3
    refine ⟨?_, hE.trans hE3⟩
    rw [bne_iff_ne]
    exact ⟨fun hne hA => hne (hA.2 hl), fun hA hd => hA ⟨hbg.1 ht, fun _ => hd⟩⟩

theorem problemsOk_ok {w : World} {s : Sl} {ps : List Prob} (hs : R w s ps) :
    Calls Tryz.prog F.i_problemsOk #[s.v] w (Ret [.at .bool] fun (x : Bool) w' => (x = true ↔ PsOk ps) ∧ Ext w w') := by
  refine C_i_problemsOk ?_
  unfold V_i_problemsOk
  refine NEW_intro fun pa w1 hp1 hs1 hE hb1 => LD_bs hb1 ?_
  replace hs := hs.ext hE
  rw [hs.len]
  refine call (within_ok _ _ _ _) ?_
  rintro _ _ ⟨rfl, rfl⟩
  refine cond_not (fun hf => ⟨?_, hE⟩) (fun ht => LD_bs hb1 ?_)
  · simp only [Bool.false_eq_true, false_iff]
    exact fun hA => inR_false hf ⟨by have := hA.1; omega, by have := hA.1; omega⟩
  have hr := inR_true ht
  have hl : 0 < ps.length := by omega
  refine C_slices_ContainsFunc_sl_i_Problem_i_Problem ?_
  unfold V_slices_ContainsFunc_sl_i_Problem_i_Problem
  refine C_slices_IndexFunc_sl_i_Problem_i_Problem ?_
  unfold V_slices_IndexFunc_sl_i_Problem_i_Problem
  rw [hs.len]
  refine ⟨IN ps.length fun i w' => Ext w1 w' ∧ ∀ q ∈ ps.take i, PsIn ps q, MN ps.length, IN_zero ⟨Ext.refl _, by simp⟩, ?_⟩
  rintro _ w2 ⟨i, rfl, hi, hE2, hI⟩
  intros
  refine cond_dec (fun hlt => ?_) (fun hge => ?_)
  · have hi' : i < ps.length := by omega
    refine slr_ixP (hs.ext hE2) hi' fun q z u hP hc => LD_pcells hc ?_
    refine CALLV_mk (by kernel_rfl) ?_
    refine call (problemsOk1_ok hP (hb1.ext hE2) (hs.ext hE2) hl) ?_
    rintro x w3 ⟨hx, hE3⟩
    refine cond_b (fun hb => ⟨?_, hE.trans (hE2.trans hE3)⟩) (fun hb => IN_next hs.le hi' ⟨hE2.trans hE3, fun q hq => ?_⟩)
    · have e : decide ((i : Int) ≥ 0) = true := by simp
      rw [e]
      simp only [Bool.not_true, Bool.false_eq_true, false_iff]
      exact fun hA => (hx.1 hb) (hA.2 _ (List.getElem_mem hi'))
    · rw [List.take_succ_eq_append_getElem hi'] at hq
      rcases List.mem_append.1 hq with h1 | h1
      · exact hI q h1
      · rw [List.mem_singleton.1 h1]
        exact Classical.byContradiction fun hn => by rw [hx.2 hn] at hb; cases hb
  · have : i = ps.length := by omega
    subst this
    rw [List.take_length] at hI
    refine ⟨?_, hE.trans hE2⟩
    have e : decide ((-1 : Int) ≥ 0) = false := by decide
    rw [e]
    simp only [Bool.not_false, true_iff]
    exact ⟨by omega, hI⟩

theorem boTwo_ok {w : World} {s : Sl} {ps : List Prob} (hs : R w s ps) :
    Calls Tryz.prog F.s_boTwo #[s.v] w (Ret [.at .bool] fun (x : Bool) w' => (x = true ↔ PsOk ps) ∧ Ext w w') := by
  refine C_s_boTwo ?_
  unfold V_s_boTwo
  rw [hs.len]
  refine ⟨IN ps.length fun i w' => Ext w w' ∧ ∀ q ∈ ps.take i, PsIn ps q, MN ps.length, IN_zero ⟨Ext.refl _, by simp⟩, ?_⟩
  rintro _ w1 ⟨i, rfl, hi, hE1, hI⟩
  intros
  refine cond_dec (fun hlt => ?_) (fun hge => ?_)
  · have hi' : i < ps.length := by omega
    have hl : 0 < ps.length := by omega
    refine slr_ixP (hs.ext hE1) hi' fun q z u hP hc => LD_pcells hc ?_
    refine NEW_ST (one4p _ _ _ _) rfl fun pp w3 hpp hE3 hb3 => LD_iiss hb3 ?_
    obtain ⟨b, hbg, hq⟩ := prQ (hP.ext hE3)
    have hE13 := hE1.trans hE3
    have hno : ∀ {w' : World}, Ext w3 w' → ¬ PsIn ps ps[i] → (false = true ↔ PsOk ps) ∧ Ext w w' := fun hE' hn => ⟨by simp only [Bool.false_eq_true, false_iff]; exact fun hA => hn (hA.2 _ (List.getElem_mem hi')), hE13.trans hE'⟩
    refine QCALL_bool b hq ?_
    refine cond_not (fun hf => fun w4 hE4 => hno hE4 fun hA => by rw [hbg.2 hA.1] at hf; cases hf) (fun ht => LD_bi1 hb3 ?_)
    refine slr_ixP (i := 0) (hs.ext hE13) hl fun q0 z0 u0 hP0 hc0 => LD_pdeg hc0 ?_
    intro w5 hE5
    refine cond_ne (fun hne => hno hE5 fun hA => hne (hA.2 hl)) (fun heq => IN_next hs.le hi' ⟨hE13.trans hE5, fun q hq => ?_⟩)
    rw [List.take_succ_eq_append_getElem hi'] at hq
    rcases List.mem_append.1 hq with h1 | h1
    · exact hI q h1
    · rw [List.mem_singleton.1 h1]; exact ⟨hbg.1 ht, fun _ => heq⟩
  · have : i = ps.length := by omega
    subst this
    rw [List.take_length] at hI
    refine call (l1In_ok _ _ _ _) ?_
    rintro _ _ ⟨rfl, rfl⟩
    refine ⟨⟨fun ht => ⟨?_, hI⟩, fun hA => ?_⟩, hE1⟩
    · have := inR_true ht; omega
    · cases hb : inR (ps.length : Int) 1 7 with
      | true => rfl
      | false => exact absurd ⟨by have := hA.1; omega, by have := hA.1; omega⟩ (inR_false hb)

end Go.Proofs.YtnhidomgpbohiaaGreatDoor
end

section
/- Whether a bound is right: both sides. -/
namespace Go.Proofs.YtnhidomgpbohiaaGreatDoor
open Go.GX Go.RowKit
set_option maxRecDepth 100000

theorem QCALL_prop {f : FuncId} {args : Array Value} {w : World} {K : Bool → Prop} {A : Prop} (h : ∀ w', Ext w w' → Calls Tryz.prog f args w' (Ret [.at .bool] fun (x : Bool) w'' => (x = true ↔ A) ∧ Ext w' w'')) (hk : ∀ b, (b = true ↔ A) → K b) : QCALL Tryz.prog f args w [.at .bool] K := by
  classical
  exact QCALL_bool (decide A) (fun w' hE => call (h w' hE) fun x _ ⟨h1, h2⟩ => ⟨by rw [Bool.eq_iff_iff, h1]; simp, h2⟩) (hk _ (by simp))

def StOk (p q : Prob) (f : List Int) : Prop := rdGood p ∧ MapOk (roundP p) q f
/-- What is asked of a bound. -/
structure Right (B : Bnd) : Prop where
  len : B.maps.length + 1 = B.ps.length
  step : ∀ i (h1 : i < B.maps.length) (h2 : i + 1 < B.ps.length), StOk (B.ps[i]'(by omega)) B.ps[i + 1] B.maps[i]
  zero : ∀ i (h : i < B.ps.length), i + 1 = B.ps.length → ZOk B.ps[i] B.pairs

theorem boStep_ok {w : World} {c d c' d' s : Sl} {p q : Prob} {f : List Int} (h : RProb w c d p) (h' : RProb w c' d' q) (hq : PGood q) (hf : R w s f) :
    Calls Tryz.prog F.s_boStep #[.agg #[.int .i64 p.labels, .int .i64 p.degree, c.v, d.v], .agg #[.int .i64 q.labels, .int .i64 q.degree, c'.v, d'.v], s.v] w (Ret [.at .bool] fun (x : Bool) w' => (x = true ↔ StOk p q f) ∧ Ext w w') := by
  refine C_s_boStep ?_
  unfold V_s_boStep
  refine NEW_intro fun pp w1 hp1 hs1 hE1 hb1 => NEW_intro fun pq w2 hp2 hs2 hE2 hb2 => LD_iiss (hb1.ext hE2) ?_
  have hE := hE1.trans hE2
  replace h := h.ext hE
  replace h' := h'.ext hE
  replace hf := hf.ext hE
  refine call (sEliminateRound_ok h) ?_
  rintro x y z u a1 a2 b w3 ⟨hE3, hr⟩
  replace hE := hE.ext hE3
  replace h' := h'.ext hE3
  replace hf := hf.ext hE3
  replace hb2 := hb2.ext hE3
  refine NEW_ST (one4p _ _ _ _) rfl fun pr w5 hp5 hE5 hb5 => ?_
  replace hE := hE.ext hE5
  replace h' := h'.ext hE5
  replace hf := hf.ext hE5
  replace hb2 := hb2.ext hE5
  rcases hr with ⟨rfl, hgd, rfl, rfl, hP⟩ | ⟨rfl, hno⟩
  · replace hP := hP.ext hE5
    refine cond_t rfl (LD_iiss hb5 (LD_iiss hb2 ?_))
    refine call (reMap_ok (p := roundP p) (q := q) hP.prob h' (made_round hgd.1 hgd.2) hq hf) ?_
    rintro v w6 ⟨hv, hE6⟩
    exact ⟨hv.trans ⟨fun hm => ⟨hgd, hm⟩, fun hA => hA.2⟩, hE.trans hE6⟩
  · exact cond_f rfl ⟨by simp only [Bool.false_eq_true, false_iff]; exact fun hA => hno hA.1, hE⟩

theorem isRightBound_ok {w : World} {a b c : Sl} {B : Bnd} (h : RBnd w a b c B) (hs : SmallB B) (hps : PsOk B.ps) :
    Calls Tryz.prog F.i_isRightBound #[.agg #[a.v, b.v, c.v]] w (Ret [.at .bool] fun (x : Bool) w' => (x = true ↔ Right B) ∧ Ext w w') := by
  refine C_i_isRightBound ?_
  unfold V_i_isRightBound
  refine NEW_intro fun pb w1 hp1 hs1 hE hb => LD_bs0 hb (LD_bs1 hb ?_)
  replace h := h.ext hE
  have hl := hps.1
  rw [h.ps.len, h.maps.len, wrap_of (by omega) (by omega)]
  have hno : ∀ {w' : World}, Ext w w' → ¬ Right B → (false = true ↔ Right B) ∧ Ext w w' := fun h1 h2 => ⟨by simp [h2], h1⟩
  refine cond_ne (fun hne => hno hE fun hR => hne (by have := hR.len; show (B.maps.length : Int) = (B.ps.length : Int) - 1; omega)) (fun heq => LD_bs1 hb ?_)
  have hlen : B.maps.length + 1 = B.ps.length := by have : (B.maps.length : Int) = (B.ps.length : Int) - 1 := heq; omega
  rw [h.maps.len]
  refine ⟨IN B.maps.length fun i w' => Ext w1 w' ∧ ∀ j, j < i → ∀ (h1 : j < B.maps.length) (h2 : j + 1 < B.ps.length), StOk (B.ps[j]'(by omega)) B.ps[j + 1] B.maps[j], MN B.maps.length, IN_zero ⟨Ext.refl _, fun j hj => absurd hj (by omega)⟩, ?_⟩
  rintro _ w2 ⟨i, rfl, hi, hE2, hI⟩
  intros
  replace hE := hE.ext hE2
  replace h := h.ext hE2
  replace hb := hb.ext hE2
  refine cond_dec (fun hlt => ?_) (fun hge => ?_)
  · have hi' : i < B.maps.length := by omega
    have hip : i < B.ps.length := by omega
    have hiq : i + 1 < B.ps.length := by omega
    have hg := hps.2 _ (List.getElem_mem hip)
    have hg2 := hps.2 _ (List.getElem_mem hiq)
    refine h.maps.ixL hi' fun q0 row hrow hc => LD_sl hc (LD_bs0 hb ?_)
    refine slr_ixP h.ps hip fun q1 z1 u1 hP1 hc1 => LD_pcells hc1 ?_
    refine call (eliminate_ok hP1 (hs.ps _ (List.getElem_mem hip)) hg.1) ?_
    rintro x y z u a1 a2 bb w3 ⟨hE3, hr⟩
    refine NEW_ST (one4p _ _ _ _) rfl fun pq w5 hp5 hE5 hb5 => ?_
    have hE35 := hE3.trans hE5
    rcases hr with ⟨rfl, hfw, rfl, rfl, hP⟩ | ⟨rfl, hnf⟩
    · replace hP := hP.ext hE5
      refine cond_not (fun hf => by cases hf) (fun _ => LD_iiss hb5 (LD_bs0 (hb.ext hE35) ?_))
      have e1 : IntKind.i64.wrap ((i : Int) + 1) = ((i + 1 : Nat) : Int) := by rw [wrap_of (by omega) (by omega)]; omega
      rw [e1]
      refine slr_ixP (h.ps.ext hE35) hiq fun q2 z2 u2 hP2 hc2 => LD_pcells hc2 ?_
      refine QCALL_prop (A := MapOk (roundP B.ps[i]) B.ps[i + 1] B.maps[i]) (fun w' hw' => isLabelMap_ok (p := roundP B.ps[i]) (q := B.ps[i + 1]) (hP.prob.ext hw') (hP2.ext hw') (made_round hg.1 hfw) hg2.1 (small_round hg.1 hfw) (hs.ps _ (List.getElem_mem hiq)) ((hrow.any.ext hE35).ext hw')) fun v hv => ?_
      intro w7 hE7
      refine cond_not (fun hf => hno (hE.trans (hE35.trans hE7)) fun hR => by rw [hv.2 (hR.step i hi' hiq).2] at hf; cases hf) (fun ht => ?_)
      refine ⟨⟨i + 1, rfl, hi', hE2.trans (hE35.trans hE7), fun j hj h1 h2 => ?_⟩, by unfold MN; omega⟩
      by_cases hji : j = i
      · subst hji; exact ⟨⟨hg.1, hfw⟩, hv.1 ht⟩
      · exact hI j (by omega) h1 h2
    · refine cond_not (fun _ => fun w6 hE6 => hno (hE.trans (hE35.trans hE6)) fun hR => hnf (hR.step i hi' hiq).1.2) (fun ht => by cases ht)
  · have : i = B.maps.length := by omega
    subst this
    have hlast : B.ps.length - 1 < B.ps.length := by omega
    have e1 : (B.ps.length : Int) - 1 = ((B.ps.length - 1 : Nat) : Int) := by omega
    refine LD_bs0 hb ?_
    rw [e1]
    refine slr_ixP h.ps hlast fun q1 z1 u1 hP1 hc1 => LD_pcells hc1 (LD_bs2 hb ?_)
    refine QCALL_prop (fun w' hw' => isZeroRefusal_ok (hP1.ext hw') (hps.2 _ (List.getElem_mem hlast)).1 (hs.ps _ (List.getElem_mem hlast)) (h.pairs.ext hw')) fun v hv => ?_
    intro w8 hE8
    refine ⟨?_, hE.trans hE8⟩
    refine ⟨fun ht => ⟨hlen, fun j h1 h2 => hI j h1 h1 h2, fun j hj hjl => ?_⟩, fun hR => hv.2 (hR.zero _ hlast (by omega))⟩
    have hjj : j = B.ps.length - 1 := by omega
    subst hjj
    exact hv.1 ht

end Go.Proofs.YtnhidomgpbohiaaGreatDoor
end

section
/- Whether a bound is right: the reference; CheckBound and BoundOf, both sides. -/
namespace Go.Proofs.YtnhidomgpbohiaaGreatDoor
open Go.GX Go.RowKit
set_option maxRecDepth 100000

theorem boRight_ok {w : World} {a b c : Sl} {B : Bnd} (h : RBnd w a b c B) (hps : PsOk B.ps) :
    Calls Tryz.prog F.s_boRight #[.agg #[a.v, b.v, c.v]] w (Ret [.at .bool] fun (x : Bool) w' => (x = true ↔ Right B) ∧ Ext w w') := by
  refine C_s_boRight ?_
  unfold V_s_boRight
  refine NEW_intro fun pb w1 hp1 hs1 hE hb => LD_bs0 hb (LD_bs1 hb ?_)
  replace h := h.ext hE
  have hl := hps.1
  rw [h.ps.len, h.maps.len, wrap_of (by omega) (by omega)]
  have hno : ∀ {w' : World}, Ext w w' → ¬ Right B → (false = true ↔ Right B) ∧ Ext w w' := fun h1 h2 => ⟨by simp [h2], h1⟩
  refine cond_ne (fun hne => fun w2 hE2 => hno (hE.trans hE2) fun hR => hne (by have := hR.len; show (B.maps.length : Int) = (B.ps.length : Int) - 1; omega)) (fun heq => LD_bs0 hb ?_)
  have hlen : B.maps.length + 1 = B.ps.length := by have : (B.maps.length : Int) = (B.ps.length : Int) - 1 := heq; omega
  have hlast : B.ps.length - 1 < B.ps.length := by omega
  have e0 : (B.ps.length : Int) - 1 = ((B.ps.length - 1 : Nat) : Int) := by omega
  rw [e0]
  refine slr_ixP h.ps hlast fun q1 z1 u1 hP1 hc1 => LD_pcells hc1 (LD_bs2 hb ?_)
  refine QCALL_prop (fun w' hw' => boZero_ok (hP1.ext hw') (hps.2 _ (List.getElem_mem hlast)).1 (h.pairs.ext hw')) fun v hv => ?_
  intro w3 hE3
  replace hE := hE.ext hE3
  replace h := h.ext hE3
  replace hb := hb.ext hE3
  refine cond_not (fun hf => hno hE fun hR => by rw [hv.2 (hR.zero _ hlast (by omega))] at hf; cases hf) (fun ht0 => ?_)
  unfold V_s_boRight_k1
  refine LD_bs1 hb ?_
  rw [h.maps.len]
  refine ⟨IN B.maps.length fun i w' => Ext w3 w' ∧ ∀ j, j < i → ∀ (h1 : j < B.maps.length) (h2 : j + 1 < B.ps.length), StOk (B.ps[j]'(by omega)) B.ps[j + 1] B.maps[j], MN B.maps.length, IN_zero ⟨Ext.refl _, fun j hj => absurd hj (by omega)⟩, ?_⟩
  rintro _ w5 ⟨i, rfl, hi, hE5, hI⟩
  intros
  replace hE := hE.ext hE5
  replace h := h.ext hE5
  replace hb := hb.ext hE5
  refine cond_dec (fun hlt => ?_) (fun hge => ?_)
  · have hi' : i < B.maps.length := by omega
    have hip : i < B.ps.length := by omega
    have hiq : i + 1 < B.ps.length := by omega
    refine h.maps.ixL hi' fun q0 row hrow hc => LD_sl hc (LD_bs0 hb ?_)
    refine slr_ixP h.ps hip fun q1 z1 u1 hP1 hc1 => LD_pcells hc1 (LD_bs0 hb ?_)
    have e1 : IntKind.i64.wrap ((i : Int) + 1) = ((i + 1 : Nat) : Int) := by rw [wrap_of (by omega) (by omega)]; omega
    rw [e1]
    refine slr_ixP h.ps hiq fun q2 z2 u2 hP2 hc2 => LD_pcells hc2 ?_
    refine QCALL_prop (fun w' hw' => boStep_ok (hP1.ext hw') (hP2.ext hw') (hps.2 _ (List.getElem_mem hiq)).1 (hrow.any.ext hw')) fun v2 hv2 => ?_
    intro w6 hE6
    refine cond_not (fun hf => hno (hE.trans hE6) fun hR => by rw [hv2.2 (hR.step i hi' hiq)] at hf; cases hf) (fun ht => ?_)
    refine ⟨⟨i + 1, rfl, hi', hE5.trans hE6, fun j hj h1 h2 => ?_⟩, by unfold MN; omega⟩
    by_cases hji : j = i
    · subst hji; exact hv2.1 ht
    · exact hI j (by omega) h1 h2
  · have : i = B.maps.length := by omega
    subst this
    refine ⟨?_, hE⟩
    simp only [true_iff]
    refine ⟨hlen, fun j h1 h2 => hI j h1 h1 h2, fun j hj hjl => ?_⟩
    have hjj : j = B.ps.length - 1 := by omega
    subst hjj
    exact hv.1 ht0

def BdAns (B : Bnd) (x ok : Bool) : Prop := (ok = true ↔ PsOk B.ps) ∧ (x = true ↔ PsOk B.ps ∧ Right B)
theorem BdAns.eq {B : Bnd} {x ok y ok' : Bool} (h : BdAns B x ok) (h' : BdAns B y ok') : x = y ∧ ok = ok' := ⟨by rw [Bool.eq_iff_iff, h.2, h'.2], by rw [Bool.eq_iff_iff, h.1, h'.1]⟩

theorem CheckBound_ok {w : World} {a b c : Sl} {B : Bnd} (h : RBnd w a b c B) (hs : SmallB B) :
    Calls Tryz.prog F.i_CheckBound #[.agg #[a.v, b.v, c.v]] w (Ret [.at .bool, .at .bool] fun (x : Bool) (ok : Bool) w' => BdAns B x ok ∧ Ext w w') := by
  refine C_i_CheckBound ?_
  unfold V_i_CheckBound
  refine NEW_intro fun pb w1 hp1 hs1 hE hb => LD_bs0 hb ?_
  replace h := h.ext hE
  refine call (problemsOk_ok h.ps) ?_
  rintro x w2 ⟨hx, hE2⟩
  replace hE := hE.ext hE2
  replace h := h.ext hE2
  replace hb := hb.ext hE2
  refine cond_not (fun hf => ⟨⟨?_, ?_⟩, hE⟩) (fun ht => LD_box3 hb ?_)
  · simp only [Bool.false_eq_true, false_iff]; exact fun hA => by rw [hx.2 hA] at hf; cases hf
  · simp only [Bool.false_eq_true, false_iff]; exact fun hA => by rw [hx.2 hA.1] at hf; cases hf
  · have hp := hx.1 ht
    refine call (isRightBound_ok h hs hp) ?_
    rintro y w3 ⟨hy, hE3⟩
    exact ⟨⟨⟨fun _ => hp, fun _ => rfl⟩, hy.trans ⟨fun hr => ⟨hp, hr⟩, fun hA => hA.2⟩⟩, hE.trans hE3⟩


def BoAns (B : Bnd) (n : Int) (ok : Bool) : Prop := AnsG (PsOk B.ps ∧ Right B) (B.maps.length : Int) 0 n ok

theorem BoundOf_ok {w : World} {a b c : Sl} {B : Bnd} (h : RBnd w a b c B) (hs : SmallB B) :
    Calls Tryz.prog F.i_BoundOf #[.agg #[a.v, b.v, c.v]] w (Ret [.at (.int .i64), .at .bool] fun (n : Int) (ok : Bool) w' => BoAns B n ok ∧ Ext w w') := by
  refine C_i_BoundOf ?_
  unfold V_i_BoundOf
  refine NEW_intro fun pb w1 hp1 hs1 hE hb => LD_box3 hb ?_
  replace h := h.ext hE
  refine call (CheckBound_ok h hs) ?_
  rintro x ok w2 ⟨hx, hE2⟩
  replace hE := hE.ext hE2
  replace h := h.ext hE2
  replace hb := hb.ext hE2
  refine cond_not (fun hf => ⟨.no fun hA => (by rw [hx.2.2 hA] at hf; cases hf), hE⟩) (fun ht => ?_)
  have hA := hx.2.1 ht
  refine cond_not (fun hf => ⟨.no fun _ => (by rw [hx.1.2 hA.1] at hf; cases hf), hE⟩) (fun _ => LD_bs1 hb ?_)
  rw [h.maps.len]
  exact ⟨.yes hA, hE⟩

end Go.Proofs.YtnhidomgpbohiaaGreatDoor
end

section
/- The laws' arguments that are bounds, read as data. -/
namespace Go.Proofs.YtnhidomgpbohiaaGreatDoor
open Go.GX Go.RowKit
set_option maxRecDepth 100000

theorem reads_prob : Reads Tryz.prog T.t_l_Problem Prob := fun h => by
  obtain ⟨hl, hx⟩ := trod_fields (ts := [T.t_int, T.t_int, T.t_sl_sl_int, T.t_sl_sl_int]) (by kernel_rfl) h
  obtain ⟨v0, n0, y0, hv0, ht0⟩ := hx 0 T.t_int rfl
  obtain ⟨v1, n1, y1, hv1, ht1⟩ := hx 1 T.t_int rfl
  obtain ⟨v2, n2, y2, hv2, ht2⟩ := hx 2 T.t_sl_sl_int rfl
  obtain ⟨v3, n3, y3, hv3, ht3⟩ := hx 3 T.t_sl_sl_int rfl
  obtain ⟨a, ha, hA⟩ := reads_int ht0
  obtain ⟨b, hb, hB⟩ := reads_int ht1
  obtain ⟨y, c, hc, hC⟩ := reads_intss ht2
  obtain ⟨z, e, he, hE⟩ := reads_intss ht3
  simp only [List.cons.injEq, and_true] at ha hb hc he
  subst ha; subst hb; subst hc; subst he
  refine ⟨⟨a, b, y, z⟩, c, e, ?_, hA, hB, hC, hE⟩
  apply List.ext_getElem?
  intro i
  match i with
  | 0 => simpa using hv0
  | 1 => simpa using hv1
  | 2 => simpa using hv2
  | 3 => simpa using hv3
  | i + 4 => simp at hl; simp [hl]

theorem reads_probs : Reads Tryz.prog T.t_sl_l_Problem (List Prob) := Reads.slice (e := T.t_l_Problem) (by kernel_rfl) (by kernel_rfl) reads_prob

variable {H : Type} {enc : TypeId × Value → H} {w : World} {base b0 : Nat} {spare : Nat → Bool} {held : Bool} {v : Value} {d : DataW H} {p : List MemPlace}

theorem open_B {r} (hv : Value.okWide Tryz.prog w r b0 T.t_l_Bound v) (h : DataW.Trod enc Tryz.prog w base spare held T.t_l_Bound v d p) : ∃ (a b c : Sl) (B : Bnd), v = .agg #[a.v, b.v, c.v] ∧ RBnd w a b c B := by
  obtain ⟨a, b, c, x, y, z, rfl, h1, h2, h3⟩ := open_three (u0 := T.t_sl_l_Problem) (u1 := T.t_sl_sl_int) (u2 := T.t_sl_sl_int) (by kernel_rfl) reads_probs reads_intss reads_intss hv h
  exact ⟨a, b, c, ⟨x, y, z⟩, rfl, h1, h2, h3⟩

end Go.Proofs.YtnhidomgpbohiaaGreatDoor
end

section
/- Texts as lists of bytes: splitting at a byte, decimal numbers, lines of words. No program is named here. -/
namespace Go.GX
open Go.Lib

/-! ### Splitting at a byte -/

/-! ### Decimal numbers -/

theorem decDigits_small {n : Nat} (h : n < 10) : decDigits n = [UInt8.ofNat (48 + n)] := decDigits_one h
theorem decDigits_big {n : Nat} (h : ¬ n < 10) : decDigits n = decDigits (n / 10) ++ [UInt8.ofNat (48 + n % 10)] := by rw [decDigits, dif_neg h]

theorem decDigits_few {n : Nat} : n < 1000000 ↔ (decDigits n).length ≤ 6 := by
  rw [decDigits_length]
  have h1 := lt_pow_nDigits n
  constructor
  · intro h
    rcases Nat.lt_or_ge (nDigits n) 7 with h7 | h7
    · omega
    · exfalso
      -- at least seven digits: at least a million
      have key : ∀ k u, k + 1 ≤ nDigits u → 10 ^ k ≤ u ∨ k = 0 := by
        intro k
        induction k with
        | zero => intro u _; exact .inr rfl
        | succ k ih =>
          intro u hu
          by_cases hs : u < 10
          · rw [nDigits_small hs] at hu; omega
          · rw [nDigits_big hs] at hu
            rcases ih (u / 10) (by omega) with h | rfl
            · left; rw [Nat.pow_succ]; omega
            · left; simp; omega
      rcases key 6 n h7 with h | h
      · have : (10 : Nat) ^ 6 = 1000000 := by decide
        omega
      · omega
  · intro h
    have : (10 : Nat) ^ nDigits n ≤ 10 ^ 6 := Nat.pow_le_pow_right (by decide) h
    have e : (10 : Nat) ^ 6 = 1000000 := by decide
    omega

/-- The number of at most six digits that a text spells. -/
def NumOf (l : List UInt8) (x : Int) : Prop := ∃ n : Nat, n < 1000000 ∧ decDigits n = l ∧ x = n
theorem NumOf.range {l : List UInt8} {x : Int} (h : NumOf l x) : 0 ≤ x ∧ x < 1000000 := by
  obtain ⟨n, h1, _, rfl⟩ := h; omega

/-! ### Lines -/

/-- A number in a line: a star for what is below zero. -/
def numS (x : Int) : List UInt8 := if x < 0 then [42] else decDigits x.toNat
/-- A line of a word and numbers. -/
def lineS (w : List UInt8) (l : List Int) : List UInt8 := w ++ l.flatMap fun x => 32 :: numS x

theorem numS_nat (n : Nat) : numS (n : Int) = decDigits n := by unfold numS; rw [if_neg (by omega)]; rfl
theorem numS_neg {x : Int} (h : x < 0) : numS x = [42] := by simp [numS, h]
theorem lineS_snoc (w : List UInt8) (l : List Int) (x : Int) : lineS w (l ++ [x]) = lineS w l ++ (32 :: numS x) := by simp [lineS]
theorem numS_len {x : Int} (hx : x < 1000000) : (numS x).length ≤ 6 := by
  unfold numS
  split
  · simp
  · exact decDigits_few.1 (by omega)
theorem lineS_len (w : List UInt8) : ∀ {l : List Int}, (∀ x ∈ l, x < 1000000) → (lineS w l).length ≤ w.length + 7 * l.length
  | [], _ => by simp [lineS]
  | x :: l, h => by
    have h1 := numS_len (h x (by simp))
    have h2 := lineS_len w (l := l) fun y hy => h y (by simp [hy])
    simp only [lineS, List.length_append, List.flatMap_cons, List.length_cons] at h2 ⊢
    omega

/-! ### Joining -/

theorem intercalate_cons (sep x : List UInt8) : ∀ (L : List (List UInt8)), sep.intercalate (x :: L) = x ++ L.flatMap fun y => sep ++ y := by
  intro L
  induction L generalizing x with
  | nil => simp [List.intercalate]
  | cons y L ih =>
    have e : sep.intercalate (x :: y :: L) = x ++ (sep ++ sep.intercalate (y :: L)) := by simp [List.intercalate, List.intersperse]
    rw [e, ih y]; simp
theorem intercalate_end (c : UInt8) {L : List (List UInt8)} (h : L ≠ []) : [c].intercalate L ++ [c] = L.flatMap fun x => x ++ [c] := by
  obtain ⟨x, L, rfl⟩ := List.exists_cons_of_ne_nil h
  rw [intercalate_cons]
  clear h
  induction L generalizing x with
  | nil => simp
  | cons y L ih =>
    have := ih y
    simp only [List.flatMap_cons, List.append_assoc] at this ⊢
    rw [← this]

/-- Lines, each ended by a line feed. -/
def linesS (L : List (List UInt8)) : List UInt8 := L.flatMap fun x => x ++ [10]
end Go.GX
end

section
/- Strings in memory: as lists of bytes, lists of strings, and the operations on them. No program is named here. -/
namespace Go.GX
open Go.RowKit

/-- A string of bytes. -/
def mkS (l : List UInt8) : ByteArray := ⟨l.toArray⟩

theorem mkS_data (l : List UInt8) : (mkS l).data.toList = l := rfl
theorem mkS_size (l : List UInt8) : (mkS l).size = l.length := rfl
theorem mk_lit (l : List UInt8) : ByteArray.mk l.toArray = mkS l := rfl
theorem mkS_app (a b : List UInt8) : mkS a ++ mkS b = mkS (a ++ b) := by
  apply ByteArray.ext
  rw [ByteArray.data_append]
  simp [mkS]
section
variable {X Y : Prop} {a b : List UInt8}
end

instance : Rep ByteArray where
  sz := 1
  rep _ _ cs s := cs = [.string s]
  len h := by rw [h]; rfl
  agr _ h := h
  weak _ h := h
instance : RepP ByteArray := ⟨by decide⟩
instance : Flat ByteArray where
  cells s := [.string s]
  ok _ := True
  size _ := rfl
  one _ v hv := by simp at hv; subst hv; rfl
  repOk _ := rfl
  ofRep h := ⟨h, trivial⟩

instance : Rep UInt8 where
  sz := 1
  rep _ _ cs s := cs = [.int .u8 (s.toNat : Int)]
  len h := by rw [h]; rfl
  agr _ h := h
  weak _ h := h
instance : RepP UInt8 := ⟨by decide⟩
instance : Flat UInt8 where
  cells s := [.int .u8 (s.toNat : Int)]
  ok _ := True
  size _ := rfl
  one _ v hv := by simp at hv; subst hv; rfl
  repOk _ := rfl
  ofRep h := ⟨h, trivial⟩

section
variable {P : Program} {t : TypeId} {w : World}
/-- The bytes of an own row as a string. -/
theorem RUN_bytes {src dst e e' : TypeId} (hs : P.underlying src = some (.slice e)) (he : P.underlying e = some (.int .u8)) (hd : P.underlying dst = some .string) {base : Nat} {s : Sl} {b : UInt8} (h : OwnL w base e' s [b])
    {K : ByteArray → World → Prop} (hk : K (mkS [b]) w) : RUN P (.at .str) (convert src dst s.v) w K := by
  have hr := h.rep fun _ _ => trivial
  obtain ⟨a, cs, h1, _, h3, h4⟩ := hr.2.2 0 b rfl
  have hl : s.len = [b].length := h.1
  obtain rfl : cs = [.int .u8 (b.toNat : Int)] := h3
  have := run_convert_bytes_back (P := P) w src dst e a s.cap [b] hs he hd fun j hj => by
    have hj0 : j = 0 := by simpa using hj
    subst hj0
    exact h4 0 _ rfl
  unfold RUN Sl.v
  rw [h1, hl, this]
  exact hk
end

end Go.GX
end

section
/- Texts, the reference's side: cutting at a byte, numerals written and read. -/
namespace Go.Proofs.YtnhidomgpbohiaaGreatDoor
open Go.GX Go.RowKit
open Go.Lib (decDigits)
set_option maxRecDepth 100000

theorem slt_str : SlT Tryz.prog T.t_sl_string T.t_string 1 16 (.string (ByteArray.mk #[])) := ⟨by kernel_rfl, by kernel_rfl, rfl, by decide⟩
theorem slt_u8 : SlT Tryz.prog T.t_sl_uint8 T.t_uint8 1 1 (.int .u8 0) := ⟨by kernel_rfl, by kernel_rfl, rfl, by decide⟩
theorem und_str : Tryz.prog.underlying T.t_string = some .string := by kernel_rfl
theorem und_u8s : Tryz.prog.underlying T.t_sl_uint8 = some (.slice T.t_uint8) := by kernel_rfl
theorem und_u8 : Tryz.prog.underlying T.t_uint8 = some (.int .u8) := by kernel_rfl

theorem wrap_u8 {n : Int} (h0 : 0 ≤ n) (h1 : n < 256) : IntKind.u8.wrap n = n := by
  have e1 : (2 : Int) ^ 8 = 256 := rfl
  have hs : IntKind.u8.signed = false := rfl
  simp only [IntKind.wrap, IntKind.bits, hs, Bool.false_and, e1]
  rw [Int.emod_eq_of_lt h0 h1]; simp

theorem strs_ok (L : List ByteArray) : ∀ x ∈ L, Flat.ok x := fun _ _ => trivial

theorem l1Num_ok : ∀ (n : Nat), (n : Int) ≤ 9223372036854775807 → ∀ w : World, Calls Tryz.prog F.s_l1Num #[.int .i64 (n : Int)] w (Ret [.at .str] fun (r : ByteArray) w' => r = mkS (decDigits n) ∧ Ext w w') := by
  intro n
  induction n using Nat.strongRecOn with
  | _ n ih =>
    intro hn w
    refine C_s_l1Num ?_
    unfold V_s_l1Num
    -- one digit
    have one : ∀ {w1 : World} (d : Nat) (x : Int) {K : ByteArray → World → Prop}, d < 10 → x = d → (∀ w', Ext w1 w' → K (mkS [UInt8.ofNat (48 + d)]) w') →
        RUN Tryz.prog (.at .sl) (Instr.buildSlice T.t_sl_uint8 1 #[(0, .int .u8 (IntKind.u8.wrap (IntKind.i64.wrap (48 + x))))]) w1 fun y w2 => RUN Tryz.prog (.at .str) (convert T.t_sl_uint8 T.t_string y.v) w2 K := by
      intro w1 d x K hd hx hK
      subst hx
      have e : IntKind.u8.wrap (IntKind.i64.wrap (48 + (d : Int))) = ((UInt8.ofNat (48 + d)).toNat : Int) := by
        rw [wrap_of (by omega) (by omega), wrap_u8 (by omega) (by omega)]
        have : (UInt8.ofNat (48 + d)).toNat = 48 + d := by simp; omega
        omega
      rw [e]
      refine RUN_lit1 (α := UInt8) slt_u8 (UInt8.ofNat (48 + d)) rfl (by decide) fun y w2 hE2 hO2 => ?_
      exact RUN_bytes und_u8s und_u8 und_str hO2 (hK w2 hE2)
    refine cond_dec (fun hlt => ?_) (fun hge => ?_)
    · refine one n n (by omega) rfl fun w' hE' => ⟨?_, hE'⟩
      rw [decDigits_small (by omega)]
    · have hdiv : IntKind.i64.wrap (Int.tdiv (n : Int) 10) = ((n / 10 : Nat) : Int) := by
        have : Int.tdiv (n : Int) 10 = ((n / 10 : Nat) : Int) := by rw [show (10 : Int) = ((10 : Nat) : Int) from rfl, ← Int.ofNat_tdiv]
        rw [this, wrap_of (by omega) (by omega)]
      have hmod : Int.tmod (n : Int) 10 = ((n % 10 : Nat) : Int) := by rw [show (10 : Int) = ((10 : Nat) : Int) from rfl, Int.ofNat_tmod]
      have hrec := ih (n / 10) (by omega) (by omega)
      have hm10 : n % 10 < 10 := Nat.mod_lt _ (by omega)
      have hbig := decDigits_big (n := n) (by omega)
      have hlen : (decDigits (n / 10)).length + 1 ≤ 9223372036854775807 := by
        rw [Go.Lib.decDigits_length]
        have key : ∀ u : Nat, Go.Lib.nDigits u ≤ u + 1 := by
          intro u
          induction u using Nat.strongRecOn with
          | _ u ih =>
            by_cases h : u < 10
            · rw [Go.Lib.nDigits_small h]; omega
            · rw [Go.Lib.nDigits_big h]; have := ih (u / 10) (by omega); omega
        have := key (n / 10)
        omega
      intro w3 hE3 _
      refine ⟨by decide, by decide, ?_⟩
      rw [hdiv, hmod]
      have fin : ∀ {w' : World}, Ext w3 w' → (mkS (decDigits (n / 10)) ++ mkS [UInt8.ofNat (48 + n % 10)] = mkS (decDigits n)) ∧ Ext w w' := fun hE => ⟨by rw [mkS_app, hbig], hE3.trans hE⟩
      have hsz : (mkS (decDigits (n / 10))).size + (mkS [UInt8.ofNat (48 + n % 10)]).size ≤ 9223372036854775807 := by rw [mkS_size, mkS_size]; simpa using hlen
      -- the literal alone, the conversion alone
      have lit : ∀ {w1 : World} {K : Sl → World → Prop}, (∀ y w', Ext w1 w' → OwnL w' w1.heap.size T.t_uint8 y [UInt8.ofNat (48 + n % 10)] → K y w') →
          RUN Tryz.prog (.at .sl) (Instr.buildSlice T.t_sl_uint8 1 #[(0, .int .u8 (IntKind.u8.wrap (IntKind.i64.wrap (48 + ((n % 10 : Nat) : Int)))))]) w1 K := by
        intro w1 K hK
        have e : IntKind.u8.wrap (IntKind.i64.wrap (48 + ((n % 10 : Nat) : Int))) = ((UInt8.ofNat (48 + n % 10)).toNat : Int) := by
          rw [wrap_of (by omega) (by omega), wrap_u8 (by omega) (by omega)]
          have : (UInt8.ofNat (48 + n % 10)).toNat = 48 + n % 10 := by simp; omega
          omega
        rw [e]
        exact RUN_lit1 (α := UInt8) slt_u8 (UInt8.ofNat (48 + n % 10)) rfl (by decide) fun y w2 hE2 hO2 => hK y w2 hE2 hO2
      refine ⟨?_, Ext.refl _, ?_, ?_⟩
      · refine call (hrec w3) ?_
        rintro _ w4 ⟨rfl, hE4⟩
        refine ⟨hE4, Ext.refl _, lit fun y w5 hE5 hO5 => ⟨hE5, RUN_bytes und_u8s und_u8 und_str hO5 ⟨Ext.refl _, hsz, Ext.refl _, Ext.refl _, fin (hE4.trans hE5)⟩⟩⟩
      · refine call (hrec w3) ?_
        rintro _ w4 ⟨rfl, hE4⟩
        refine ⟨hE4, lit fun y w5 hE5 hO5 => ⟨hE5, RUN_bytes und_u8s und_u8 und_str hO5 ⟨Ext.refl _, hsz, Ext.refl _, Ext.refl _, fin (hE4.trans hE5)⟩⟩⟩
      · refine lit fun y w5 hE5 hO5 => ⟨hE5, ?_, ?_⟩
        · refine call (hrec w5) ?_
          rintro _ w4 ⟨rfl, hE4⟩
          exact ⟨hE4, RUN_bytes und_u8s und_u8 und_str (hO5.ext hE4) ⟨Ext.refl _, hsz, Ext.refl _, Ext.refl _, fin (hE5.trans hE4)⟩⟩
        · refine RUN_bytes und_u8s und_u8 und_str hO5 ⟨Ext.refl _, ?_⟩
          refine call (hrec w5) ?_
          rintro _ w4 ⟨rfl, hE4⟩
          exact ⟨hE4, hsz, Ext.refl _, Ext.refl _, fin (hE5.trans hE4)⟩

end Go.Proofs.YtnhidomgpbohiaaGreatDoor
end

section
/- Contracts of library functions (the kit's shelf, laid at this program by the kit's own tools, in plain words). -/
namespace Go.Proofs.YtnhidomgpbohiaaGreatDoor
open Go.Shelf
def Srt.lays169_ren : Go.Shelf.Ren := ⟨fun | 169 => 62 | n => n, fun | 70 => 80 | 9 => 9 | 0 => 0 | 72 => 83 | 37 => 81 | 127 => 142 | 3 => 3 | 5 => 5 | n => n, fun | n => n⟩
theorem Srt.lays169 : Go.Proofs.Lays.n169 Tryz.prog Srt.lays169_ren := {
  mixed := by kernel_rfl
  f169 := Tryz.func62.trans (congrArg some (by kernel_rfl))
  t0 := Tryz.underlying0
  a0 := Tryz.isAgg0
  z0 := Tryz.sizeOf0
  v0 := Tryz.zeroValue0
  t3 := Tryz.underlying3
  a3 := Tryz.isAgg3
  z3 := Tryz.sizeOf3
  v3 := Tryz.zeroValue3
  t9 := Tryz.underlying9
  a9 := Tryz.isAgg9
  z9 := Tryz.sizeOf9
  v9 := Tryz.zeroValue9
  t37 := Tryz.underlying81
  a37 := Tryz.isAgg81
  z37 := Tryz.sizeOf81
  v37 := Tryz.zeroValue81
  t70 := Tryz.underlying80
  a70 := Tryz.isAgg80
  z70 := Tryz.sizeOf80
  v70 := Tryz.zeroValue80
  t72 := Tryz.underlying83
  a72 := Tryz.isAgg83
  z72 := Tryz.sizeOf83
  v72 := Tryz.zeroValue83
  t127 := Tryz.underlying142
  a127 := Tryz.isAgg142
  z127 := Tryz.sizeOf142
  v127 := Tryz.zeroValue142 }
theorem Srt.Builder_Extra_169 : Builder.Extra Tryz.prog Srt.lays169_ren := {
  sizeBuilder := by kernel_rfl
  liesBuilder := by kernel_rfl
  t5 := Tryz.underlying5
  a5 := Tryz.isAgg5
  z5 := Tryz.sizeOf5
  v5 := Tryz.zeroValue5
  infoByte := by kernel_rfl
  cellsByte := by kernel_rfl
  sizeByte := by kernel_rfl
  neB5 := by decide }
open Go.RowKit in
/-- (*strings.Builder).String: "String returns the accumulated string.": WHATEVER THE BUILDER HOLDS. (LAID: no walk: one application.) -/
theorem Srt.Builder_String_any (B b : Nat) (l : List UInt8) (w : World) (h : Lib.IsBuilder 83 5 B b (Lib.byteCells l) w) (hBw : B ≤ w.heap.size) :
    Calls Tryz.prog 62 #[.pointer (some ⟨b, 0, none⟩)] w fun e w' => e = .returned (.string ⟨l.toArray⟩) ∧ Below B w w' := Any.Builder_String_any Srt.lays169 Srt.Builder_Extra_169 B b l w h hBw
def Srt.lays156_ren : Go.Shelf.Ren := ⟨fun | 156 => 122 | 165 => 164 | 166 => 59 | 169 => 62 | 240 => 121 | 241 => 205 | 276 => 163 | 277 => 236 | n => n, fun | 31 => 94 | 9 => 9 | 3 => 3 | 4 => 4 | 0 => 0 | 20 => 20 | 72 => 83 | 76 => 88 | 70 => 80 | 37 => 81 | 75 => 87 | 127 => 142 | 164 => 169 | 5 => 5 | 80 => 92 | n => n, fun | n => n⟩
theorem Srt.lays156 : Go.Proofs.Lays.n156 Tryz.prog Srt.lays156_ren := {
  mixed := by kernel_rfl
  f156 := Tryz.func122.trans (congrArg some (by kernel_rfl))
  f165 := Tryz.func164.trans (congrArg some (by kernel_rfl))
  f166 := Tryz.func59.trans (congrArg some (by kernel_rfl))
  f169 := Tryz.func62.trans (congrArg some (by kernel_rfl))
  f240 := Tryz.func121.trans (congrArg some (by kernel_rfl))
  f241 := Tryz.func205.trans (congrArg some (by kernel_rfl))
  f276 := Tryz.func163.trans (congrArg some (by kernel_rfl))
  f277 := Tryz.func236.trans (congrArg some (by kernel_rfl))
  t0 := Tryz.underlying0
  a0 := Tryz.isAgg0
  z0 := Tryz.sizeOf0
  v0 := Tryz.zeroValue0
  t3 := Tryz.underlying3
  a3 := Tryz.isAgg3
  z3 := Tryz.sizeOf3
  v3 := Tryz.zeroValue3
  t4 := Tryz.underlying4
  a4 := Tryz.isAgg4
  z4 := Tryz.sizeOf4
  v4 := Tryz.zeroValue4
  t9 := Tryz.underlying9
  a9 := Tryz.isAgg9
  z9 := Tryz.sizeOf9
  v9 := Tryz.zeroValue9
  t20 := Tryz.underlying20
  a20 := Tryz.isAgg20
  z20 := Tryz.sizeOf20
  v20 := Tryz.zeroValue20
  t31 := Tryz.underlying94
  a31 := Tryz.isAgg94
  z31 := Tryz.sizeOf94
  v31 := Tryz.zeroValue94
  t37 := Tryz.underlying81
  a37 := Tryz.isAgg81
  z37 := Tryz.sizeOf81
  v37 := Tryz.zeroValue81
  t70 := Tryz.underlying80
  a70 := Tryz.isAgg80
  z70 := Tryz.sizeOf80
  v70 := Tryz.zeroValue80
  t72 := Tryz.underlying83
  a72 := Tryz.isAgg83
  z72 := Tryz.sizeOf83
  v72 := Tryz.zeroValue83
  t75 := Tryz.underlying87
  a75 := Tryz.isAgg87
  z75 := Tryz.sizeOf87
  v75 := Tryz.zeroValue87
  t76 := Tryz.underlying88
  a76 := Tryz.isAgg88
  z76 := Tryz.sizeOf88
  v76 := Tryz.zeroValue88
  t127 := Tryz.underlying142
  a127 := Tryz.isAgg142
  z127 := Tryz.sizeOf142
  v127 := Tryz.zeroValue142
  t164 := Tryz.underlying169
  a164 := Tryz.isAgg169
  z164 := Tryz.sizeOf169
  v164 := Tryz.zeroValue169 }
theorem Srt.Builder_Extra_156 : Builder.Extra Tryz.prog Srt.lays156_ren := {
  sizeBuilder := by kernel_rfl
  liesBuilder := by kernel_rfl
  t5 := Tryz.underlying5
  a5 := Tryz.isAgg5
  z5 := Tryz.sizeOf5
  v5 := Tryz.zeroValue5
  infoByte := by kernel_rfl
  cellsByte := by kernel_rfl
  sizeByte := by kernel_rfl
  neB5 := by decide }
open Go.RowKit in
/-- No element: the empty string; the world is as it was. (Whatever the slice's address and capacity: a nil slice too.) (LAID: no walk: one application.) -/
theorem Srt.strings_Join_none (a : Option Addr) (c : Nat) (sep : ByteArray) (w : World) :
    Calls Tryz.prog 122 #[.slice a 0 c, .string sep] w fun e w' => e = .returned (.string ⟨#[]⟩) ∧ w' = w := Any.strings_Join_none Srt.lays156 Srt.Builder_Extra_156 a c sep w
open Go.RowKit in
/-- strings.Join: "Join concatenates the elements of its first argument to create a single string. The separator string sep is placed between elements in the resulting string.": HOWEVER MANY ELEMENTS. Below the heap's end the world is as it was. (LAID: no walk: one application.) -/
theorem Srt.strings_Join (bk o c : Nat) (xs : List ByteArray) (sep : ByteArray) (w : World) (hcells : ∀ (j : Nat) x, xs[j]? = some x → w.cell? ⟨bk, o + j, none⟩ = some (.string x)) (hbk : bk < w.heap.size) (hN : xs.length ≤ 140737488355328) (hcap : xs.length ≤ c) (hlen : (Lib.join (xs.map (·.data.toList)) sep.data.toList).length ≤ 140737488355328) :
    Calls Tryz.prog 122 #[.slice (some ⟨bk, o, none⟩) xs.length c, .string sep] w fun e w' => e = .returned (.string ⟨(Lib.join (xs.map (·.data.toList)) sep.data.toList).toArray⟩) ∧ Below w.heap.size w w' := Any.strings_Join Srt.lays156 Srt.Builder_Extra_156 bk o c xs sep w hcells hbk hN hcap hlen
def Srt.laysM171_ren : Go.Shelf.Ren := ⟨fun | 171 => 123 | 243 => 165 | 246 => 206 | 283 => 237 | 284 => 238 | 285 => 239 | 286 => 240 | 129 => 194 | 317 => 273 | 318 => 274 | 319 => 275 | 320 => 276 | 337 => 304 | 338 => 195 | n => n, fun | 3 => 3 | 9 => 9 | 2 => 2 | 4 => 4 | 171 => 216 | 0 => 0 | 53 => 161 | 37 => 81 | 5 => 5 | 173 => 218 | 212 => 248 | 51 => 158 | 20 => 20 | 213 => 249 | 46 => 114 | 232 => 285 | 233 => 208 | n => n, fun | 17 => 2 | 18 => 7 | 19 => 0 | n => n⟩
theorem Srt.laysM171 : Go.Proofs.LaysM.n171 Tryz.prog Srt.laysM171_ren := {
  mixed := by kernel_rfl
  f129 := Tryz.func194.trans (congrArg some (by kernel_rfl))
  f171 := Tryz.func123.trans (congrArg some (by kernel_rfl))
  f243 := Tryz.func165.trans (congrArg some (by kernel_rfl))
  f246 := Tryz.func206.trans (congrArg some (by kernel_rfl))
  f283 := Tryz.func237.trans (congrArg some (by kernel_rfl))
  f284 := Tryz.func238.trans (congrArg some (by kernel_rfl))
  f285 := Tryz.func239.trans (congrArg some (by kernel_rfl))
  f286 := Tryz.func240.trans (congrArg some (by kernel_rfl))
  f317 := Tryz.func273.trans (congrArg some (by kernel_rfl))
  f318 := Tryz.func274.trans (congrArg some (by kernel_rfl))
  f319 := Tryz.func275.trans (congrArg some (by kernel_rfl))
  f320 := Tryz.func276.trans (congrArg some (by kernel_rfl))
  f337 := Tryz.func304.trans (congrArg some (by kernel_rfl))
  f338 := Tryz.func195.trans (congrArg some (by kernel_rfl))
  t0 := Tryz.underlying0
  a0 := Tryz.isAgg0
  z0 := Tryz.sizeOf0
  v0 := Tryz.zeroValue0
  t2 := Tryz.underlying2
  a2 := Tryz.isAgg2
  z2 := Tryz.sizeOf2
  v2 := Tryz.zeroValue2
  t3 := Tryz.underlying3
  a3 := Tryz.isAgg3
  z3 := Tryz.sizeOf3
  v3 := Tryz.zeroValue3
  t4 := Tryz.underlying4
  a4 := Tryz.isAgg4
  z4 := Tryz.sizeOf4
  v4 := Tryz.zeroValue4
  t5 := Tryz.underlying5
  a5 := Tryz.isAgg5
  z5 := Tryz.sizeOf5
  v5 := Tryz.zeroValue5
  t9 := Tryz.underlying9
  a9 := Tryz.isAgg9
  z9 := Tryz.sizeOf9
  v9 := Tryz.zeroValue9
  t20 := Tryz.underlying20
  a20 := Tryz.isAgg20
  z20 := Tryz.sizeOf20
  v20 := Tryz.zeroValue20
  t37 := Tryz.underlying81
  a37 := Tryz.isAgg81
  z37 := Tryz.sizeOf81
  v37 := Tryz.zeroValue81
  t46 := Tryz.underlying114
  a46 := Tryz.isAgg114
  z46 := Tryz.sizeOf114
  v46 := Tryz.zeroValue114
  t51 := Tryz.underlying158
  a51 := Tryz.isAgg158
  z51 := Tryz.sizeOf158
  v51 := Tryz.zeroValue158
  t53 := Tryz.underlying161
  a53 := Tryz.isAgg161
  z53 := Tryz.sizeOf161
  v53 := Tryz.zeroValue161
  t171 := Tryz.underlying216
  a171 := Tryz.isAgg216
  z171 := Tryz.sizeOf216
  v171 := Tryz.zeroValue216
  t173 := Tryz.underlying218
  a173 := Tryz.isAgg218
  z173 := Tryz.sizeOf218
  v173 := Tryz.zeroValue218
  t212 := Tryz.underlying248
  a212 := Tryz.isAgg248
  z212 := Tryz.sizeOf248
  v212 := Tryz.zeroValue248
  t213 := Tryz.underlying249
  a213 := Tryz.isAgg249
  z213 := Tryz.sizeOf249
  t232 := Tryz.underlying285
  a232 := Tryz.isAgg285
  z232 := Tryz.sizeOf285
  v232 := Tryz.zeroValue285
  t233 := Tryz.underlying208
  a233 := Tryz.isAgg208
  z233 := Tryz.sizeOf208
  v233 := Tryz.zeroValue208
  g17 := by kernel_rfl
  g18 := by kernel_rfl
  g19 := by kernel_rfl
  i0 := by kernel_rfl
  i2 := by kernel_rfl
  i3 := by kernel_rfl
  i4 := by kernel_rfl
  i5 := by kernel_rfl
  i9 := by kernel_rfl
  i20 := by kernel_rfl
  i37 := by kernel_rfl
  i46 := by kernel_rfl
  i51 := by kernel_rfl
  i53 := by kernel_rfl
  i171 := by kernel_rfl
  i173 := by kernel_rfl
  i212 := by kernel_rfl
  i232 := by kernel_rfl
  i233 := by kernel_rfl
  m17 := by kernel_rfl
  m18 := by kernel_rfl
  m19 := by kernel_rfl }
open Go.RowKit Go.Sort Go.Lib in
/-- strconv.Itoa: "Itoa is equivalent to FormatInt(int64(i), 10).": i's DECIMAL NUMERAL ('Lib.itoa': a '-' where i is negative, then the digits), FOR EVERY int. The world behind the call: the world before it, new blocks behind the heap (the library's 'var a [24]byte'), draws. (LAID: no walk: one application.) -/
theorem Srt.strconv_Itoa (n : Int) (h0 : -9223372036854775808 ≤ n) (h1 : n ≤ 9223372036854775807) (w : World) (htab : Lib.TabIs Tryz.prog w "internal/strconv.uint64pow10" .u64 Lib.pow10Tab) :
    Calls Tryz.prog 123 #[.int .i64 n] w fun e w' => e = .returned (.string ⟨(Lib.itoa n).toArray⟩) ∧ ∃ k os, w' = grow (w.drewN k) os := Any.strconv_Itoa Srt.laysM171 n h0 h1 w htab
def Srt.laysC172_ren : Go.Shelf.Ren := ⟨fun | 172 => 171 | 244 => 212 | 245 => 213 | 247 => 246 | 279 => 247 | 280 => 248 | 281 => 249 | 282 => 250 | 287 => 279 | 316 => 280 | 171 => 123 | 205 => 281 | 321 => 305 | 322 => 306 | 243 => 165 | 246 => 206 | 283 => 237 | 284 => 238 | 285 => 239 | 286 => 240 | 129 => 194 | 317 => 273 | 318 => 274 | 319 => 275 | 320 => 276 | 337 => 304 | 338 => 195 | n => n, fun | 9 => 9 | 3 => 3 | 75 => 87 | 76 => 88 | 4 => 4 | 5 => 5 | 167 => 220 | 37 => 81 | 0 => 0 | 85 => 221 | 2 => 2 | 168 => 223 | 53 => 161 | 175 => 255 | 46 => 114 | 210 => 259 | 127 => 142 | 145 => 278 | 143 => 276 | 21 => 21 | 171 => 216 | 173 => 218 | 212 => 248 | 51 => 158 | 20 => 20 | 213 => 249 | 232 => 285 | 233 => 208 | 80 => 92 | n => n, fun | 15 => 5 | 16 => 6 | 17 => 2 | 18 => 7 | 19 => 0 | n => n⟩
def Srt.lays146_ren : Go.Shelf.Ren := ⟨fun | 146 => 69 | 221 => 132 | 268 => 168 | 138 => 169 | 143 => 170 | 195 => 208 | 197 => 209 | 218 => 210 | 219 => 211 | 260 => 241 | 217 => 242 | 225 => 243 | 224 => 244 | 267 => 245 | 266 => 277 | 314 => 278 | n => n, fun | 9 => 9 | 31 => 94 | 3 => 3 | 4 => 4 | 0 => 0 | 105 => 197 | 21 => 21 | 5 => 5 | 46 => 114 | 119 => 250 | 139 => 253 | 138 => 252 | 146 => 159 | 51 => 158 | n => n, fun | 1 => 1 | 3 => 3 | 4 => 4 | n => n⟩
end Go.Proofs.YtnhidomgpbohiaaGreatDoor
end

section
/- The library's functions on texts in our own words (numerals, cutting, joining); numbers and lines, both sides. -/
namespace Go.Proofs.YtnhidomgpbohiaaGreatDoor
open Go.GX Go.RowKit
open Go.Lib (decDigits)
set_option maxRecDepth 100000

/-! ### What package-level variables hold -/

/-- The table of powers of ten. -/
def GP (w : World) : Prop := Go.Lib.TabIs Tryz.prog w "internal/strconv.uint64pow10" .u64 Go.Lib.pow10Tab
/-- .. the value of ErrSyntax, MaxLen. -/
structure GV (w : World) : Prop where
  pow : GP w
  syn : ∃ ev, w.cell? ⟨Srt.laysC172_ren.g 15, 0, none⟩ = some ev ∧ (ev = .nilIface ∨ ∃ te pe, ev = .iface te pe)
  mx : ∃ m, w.cell? ⟨Srt.lays146_ren.g 1, 0, none⟩ = some (.int .i64 m)

theorem var_ext {P : Program} {w w' : World} {n : String} {cs : Array Value} (h : w.var? P n = some cs) (hE : Ext w w') : w'.var? P n = some cs := by
  unfold World.var? at h ⊢
  cases hg : P.globalNamed n with
  | none => rw [hg] at h; exact h
  | some g =>
    rw [hg] at h
    simp only [Option.bind_some] at h ⊢
    cases hh : w.heap[g]? with
    | none => rw [hh] at h; cases h
    | some o =>
      rw [hE.same (Array.getElem?_eq_some_iff.1 hh).1, hh]
      rw [hh] at h; exact h
theorem GP.ext {w w' : World} (h : GP w) (hE : Ext w w') : GP w' := var_ext h hE
theorem cell_ext {w w' : World} {a : Addr} {v : Value} (h : w.cell? a = some v) (hE : Ext w w') : w'.cell? a = some v := by
  rw [World.cell?_of_block (hE.same (cell_lt h))]; exact h
theorem GV.ext {w w' : World} (h : GV w) (hE : Ext w w') : GV w' :=
  ⟨h.pow.ext hE, let ⟨ev, h1, h2⟩ := h.syn; ⟨ev, cell_ext h1 hE, h2⟩, let ⟨m, h1⟩ := h.mx; ⟨m, cell_ext h1 hE⟩⟩

/-! ### The library -/

theorem Itoa_ok {w : World} (g : GP w) {n : Nat} (hn : (n : Int) ≤ 9223372036854775807) :
    Calls Tryz.prog F.strconv_Itoa #[.int .i64 (n : Int)] w (Ret [.at .str] fun (r : ByteArray) w' => r = mkS (decDigits n) ∧ Ext w w') := by
  refine (Srt.strconv_Itoa (n : Int) (by omega) hn w g).mono ?_
  rintro e w' ⟨rfl, k, os, rfl⟩
  refine ⟨?_, ⟨rfl, rfl, rfl, ?_, ?_⟩⟩
  · have : Go.Lib.itoa (n : Int) = decDigits n := by unfold Go.Lib.itoa; rw [if_neg (by omega)]; rfl
    rw [this]; rfl
  · show w.heap.size ≤ (w.heap ++ os).size
    rw [Array.size_append]; omega
  · intro j hj
    show (w.heap ++ os)[j]? = w.heap[j]?
    rw [Array.getElem?_append_left hj]

end Go.Proofs.YtnhidomgpbohiaaGreatDoor
end

section
/- Numbers and lines of words: both sides. -/
namespace Go.Proofs.YtnhidomgpbohiaaGreatDoor
open Go.GX Go.RowKit
open Go.Lib (decDigits)
set_option maxRecDepth 100000

/-! ### Lines written -/

theorem wordsLine_ok {w : World} (g : GP w) {wd : List UInt8} {s : Sl} {ns : List Int} (h : R w s ns) (hn : ∀ x ∈ ns, -1 ≤ x ∧ x < 1000000) (hl : ns.length ≤ 10000000) (hwd : wd.length ≤ 10000000) :
    Calls Tryz.prog F.i_wordsLine #[.string (mkS wd), s.v] w (Ret [.at .str] fun (r : ByteArray) w' => r = mkS (lineS wd ns) ∧ Ext w w') := by
  refine C_i_wordsLine ?_
  unfold V_i_wordsLine
  rw [h.len]
  refine ⟨IN2 ns.length fun i (out : ByteArray) w' => Ext w w' ∧ out = mkS (lineS wd (ns.take i)), MN2 ns.length, IN2_zero ⟨Ext.refl _, by simp [lineS]⟩, ?_⟩
  rintro _ _ w1 ⟨i, rfl, hi, hE1, rfl⟩
  intros
  have hln := lineS_len wd (l := ns.take i) fun x hx => (hn x (List.mem_of_mem_take hx)).2
  rw [List.length_take] at hln
  refine cond_dec (fun hlt => ?_) (fun hge => ?_)
  rotate_left
  · have : i = ns.length := by omega
    subst this
    rw [List.take_length]
    exact ⟨rfl, hE1⟩
  have hi' : i < ns.length := by omega
  have htk : ns.take (i + 1) = ns.take i ++ [ns[i]] := List.take_succ_eq_append_getElem hi'
  have hx := hn ns[i] (List.getElem_mem hi')
  have hx6 := numS_len hx.2
  refine (h.ext hE1).ixI hi' fun q hq hc => LD_int hc ?_
  rw [mk_lit [32, 42], mk_lit [32]]
  refine cond_eq (fun heq => ?_) (fun hne => ?_)
  · refine ⟨by rw [mkS_size, mkS_size]; simp; omega, IN2_next (by omega) hi' ⟨hE1, ?_⟩⟩
    rw [mkS_app, htk, lineS_snoc, heq]; rfl
  · obtain ⟨n, hnn⟩ : ∃ n : Nat, ns[i] = n := ⟨ns[i].toNat, by omega⟩
    rw [hnn] at hx6 ⊢
    rw [numS_nat] at hx6
    refine call (Itoa_ok (g.ext hE1) (by omega)) ?_
    rintro _ w2 ⟨rfl, hE2⟩
    refine ⟨by rw [mkS_size, mkS_size]; simp; omega, ?_⟩
    rw [mkS_app]
    refine ⟨by rw [mkS_size, mkS_size]; simp; omega, IN2_next (by omega) hi' ⟨hE1.trans hE2, ?_⟩⟩
    rw [mkS_app, htk, lineS_snoc, hnn, numS_nat]; rfl

theorem maLine_ok {w : World} {wd : List UInt8} {s : Sl} {ns : List Int} (h : R w s ns) (hn : ∀ x ∈ ns, -1 ≤ x ∧ x < 1000000) (hl : ns.length ≤ 10000000) (hwd : wd.length ≤ 10000000) :
    Calls Tryz.prog F.s_maLine #[.string (mkS wd), s.v] w (Ret [.at .str] fun (r : ByteArray) w' => r = mkS (lineS wd ns) ∧ Ext w w') := by
  refine C_s_maLine ?_
  unfold V_s_maLine
  rw [h.len]
  refine ⟨IN2 ns.length fun i (out : ByteArray) w' => Ext w w' ∧ out = mkS (lineS wd (ns.take i)), MN2 ns.length, IN2_zero ⟨Ext.refl _, by simp [lineS]⟩, ?_⟩
  rintro _ _ w1 ⟨i, rfl, hi, hE1, rfl⟩
  intros
  have hln := lineS_len wd (l := ns.take i) fun x hx => (hn x (List.mem_of_mem_take hx)).2
  rw [List.length_take] at hln
  refine cond_dec (fun hlt => ?_) (fun hge => ?_)
  rotate_left
  · have : i = ns.length := by omega
    subst this
    rw [List.take_length]
    exact ⟨rfl, hE1⟩
  have hi' : i < ns.length := by omega
  have htk : ns.take (i + 1) = ns.take i ++ [ns[i]] := List.take_succ_eq_append_getElem hi'
  have hx := hn ns[i] (List.getElem_mem hi')
  have hx6 := numS_len hx.2
  refine (h.ext hE1).ixI hi' fun q hq hc => LD_int hc ?_
  rw [mk_lit [32, 42], mk_lit [32]]
  refine cond_dec (fun hneg => ?_) (fun hpos => ?_)
  · refine ⟨by rw [mkS_size, mkS_size]; simp; omega, IN2_next (by omega) hi' ⟨hE1, ?_⟩⟩
    rw [mkS_app, htk, lineS_snoc, numS_neg hneg]
  · obtain ⟨n, hnn⟩ : ∃ n : Nat, ns[i] = n := ⟨ns[i].toNat, by omega⟩
    rw [hnn] at hx6 ⊢
    rw [numS_nat] at hx6
    refine call (l1Num_ok n (by omega) w1) ?_
    rintro _ w2 ⟨rfl, hE2⟩
    refine ⟨by rw [mkS_size, mkS_size]; simp; omega, ?_⟩
    rw [mkS_app]
    refine ⟨by rw [mkS_size, mkS_size]; simp; omega, IN2_next (by omega) hi' ⟨hE1.trans hE2, ?_⟩⟩
    rw [mkS_app, htk, lineS_snoc, hnn, numS_nat]; rfl

/-! ### Joining, ended lines -/

theorem Join_ok {w : World} {base : Nat} {s : Sl} {L : List (List UInt8)} {sep : List UInt8} (h : OwnL w base T.t_string s (L.map mkS)) (hl : (sep.intercalate L).length ≤ 140737488355328) (hL : L.length ≤ 140737488355328) :
    Calls Tryz.prog F.strings_Join #[s.v, .string (mkS sep)] w (Ret [.at .str] fun (r : ByteArray) w' => r = mkS (sep.intercalate L) ∧ Ext w w') := by
  rcases h.2.2 with ⟨hv, h0⟩ | ⟨g, cap, cur, hv, hb, hg, hle, hmx, hsz, htake⟩
  · have hnil : L = [] := by
      have := h.1
      rw [List.length_map] at this
      exact List.length_eq_zero_iff.1 (by omega)
    subst hnil
    have hlen : s.len = 0 := h0
    have hsv : s.v = .slice s.a 0 s.cap := by rw [← hlen]
    rw [hsv]
    refine (Srt.strings_Join_none s.a s.cap (mkS sep) w).mono ?_
    rintro e w' ⟨rfl, rfl⟩
    exact ⟨rfl, Ext.refl _⟩
  · have hsv : s.v = .slice (some ⟨g, 0, none⟩) (L.map mkS).length cap := by rw [← h.1]; exact hv
    rw [hsv]
    have hlist : (L.map mkS).map (fun x => x.data.toList) = L := by
      rw [List.map_map]
      exact (List.map_congr_left fun x _ => mkS_data x).trans (List.map_id _)
    have hflat : ∀ l : List ByteArray, l.flatMap Flat.cells = l.map Value.string := fun l => by
      induction l with
      | nil => rfl
      | cons x l ih => rw [List.flatMap_cons, ih]; rfl
    refine (Srt.strings_Join g 0 cap (L.map mkS) (mkS sep) w ?_ (Array.getElem?_eq_some_iff.1 hg).1 (by rw [List.length_map]; exact hL) (by rw [← h.1]; exact hle) (by rw [hlist, mkS_data]; exact hl)).mono ?_
    · intro j x hx
      rw [Nat.zero_add]
      have hj : j < (L.map mkS).length := (List.getElem?_eq_some_iff.1 hx).1
      have h1 : cur.toList[j]? = some (.string x) := by
        have h2 : (cur.toList.take (s.len * Rep.sz ByteArray))[j]? = some (.string x) := by
          rw [htake, hflat, List.getElem?_map, hx]; rfl
        rw [List.getElem?_take] at h2
        split at h2
        · exact h2
        · cases h2
      simp only [World.cell?, hg]
      simpa using h1
    · rintro e w' ⟨rfl, hE⟩
      rw [hlist, mkS_data]
      exact ⟨rfl, hE⟩

end Go.Proofs.YtnhidomgpbohiaaGreatDoor
end

section
/- Sets of labels by predicates; labels of a set, up to twelve. -/
namespace Go.Proofs.YtnhidomgpbohiaaGreatDoor
open Go.GX Go.RowKit
set_option maxRecDepth 100000

noncomputable def maskP (n : Nat) (P : Nat → Prop) : Nat := by
  classical exact maskOf n fun a => decide (P a)
/-! ### The labels of a set -/

def labsN (m a : Nat) : List Int := ((List.range a).filter fun a => m.testBit a).map fun (a : Nat) => (a : Int)
def labs (m : Nat) : List Int := labsN m 12
end Go.Proofs.YtnhidomgpbohiaaGreatDoor
end

section
/- Plain facts on walks: shortening, components, periods, flexible labels. No program in sight. -/
namespace Go.Proofs.YtnhidomgpbohiaaGreatDoor
set_option maxRecDepth 100000

/-- A walk of some length. -/
def Wk (E : Nat → Nat → Prop) : Nat → Nat → Nat → Prop
  | 0, a, b => a = b
  | k + 1, a, b => ∃ c, Wk E k a c ∧ E c b

section
variable {E : Nat → Nat → Prop} {a b c r u v j k n : Nat}

theorem Wk.cat (h : Wk E j a b) : ∀ {k c}, Wk E k b c → Wk E (j + k) a c
  | 0, _, h2 => by cases h2; exact h
  | k + 1, _, ⟨d, h2, h3⟩ => ⟨d, Wk.cat h h2, h3⟩
theorem Wk.one (h : E a b) : Wk E 1 a b := ⟨a, rfl, h⟩
theorem Wk.cons (h : E a b) (h2 : Wk E k b c) : Wk E (k + 1) a c := by
  have := (Wk.one h).cat h2
  rwa [Nat.add_comm] at this
theorem Wk.cut : ∀ {k c}, Wk E (j + k) a c → ∃ b, Wk E j a b ∧ Wk E k b c
  | 0, _, h => ⟨_, h, rfl⟩
  | k + 1, c, ⟨d, h2, h3⟩ => by
    obtain ⟨b, h4, h5⟩ := Wk.cut (k := k) h2
    exact ⟨b, h4, d, h5, h3⟩
theorem Wk.lt (hE : ∀ x y, E x y → y < n) : ∀ {k b}, Wk E k a b → 1 ≤ k → b < n
  | _ + 1, _, ⟨_, _, h⟩, _ => hE _ _ h
/-- The labels of a walk. -/
theorem Wk.path : ∀ {k b}, Wk E k a b → ∃ v : Nat → Nat, v 0 = a ∧ v k = b ∧ ∀ i, i < k → E (v i) (v (i + 1))
  | 0, _, h => by cases h; exact ⟨fun _ => a, rfl, rfl, fun i hi => by omega⟩
  | k + 1, b, ⟨c, h, he⟩ => by
    obtain ⟨v, h0, hk, hs⟩ := Wk.path h
    refine ⟨fun i => if i = k + 1 then b else v i, ?_, ?_, fun i hi => ?_⟩
    · simp only [if_neg (show (0 : Nat) ≠ k + 1 by omega)]; exact h0
    · simp
    · by_cases hi2 : i = k
      · subst hi2
        simp only [if_neg (show i ≠ i + 1 by omega), if_true]
        rw [hk]; exact he
      · simp only [if_neg (show i ≠ k + 1 by omega), if_neg (show i + 1 ≠ k + 1 by omega)]
        exact hs i (by omega)
/-- Labels that walks lead to and from. -/
def Comp (E : Nat → Nat → Prop) (r b : Nat) : Prop := (∃ k, Wk E k r b) ∧ ∃ k, Wk E k b r
theorem Comp.refl : Comp E r r := ⟨⟨0, rfl⟩, ⟨0, rfl⟩⟩
theorem Comp.symm (h : Comp E a b) : Comp E b a := ⟨h.2, h.1⟩
theorem Comp.trans (h : Comp E a b) (h2 : Comp E b c) : Comp E a c := by
  obtain ⟨⟨j, p⟩, k, q⟩ := h
  obtain ⟨⟨j', p'⟩, k', q'⟩ := h2
  exact ⟨⟨_, p.cat p'⟩, _, q'.cat q⟩

/-- A divisor of the lengths of closed walks. -/
def PerDiv (E : Nat → Nat → Prop) (r g : Nat) : Prop := ∀ k, Wk E k r r → g ∣ k
def Flex (E : Nat → Nat → Prop) (a : Nat) : Prop := (∃ k, 0 < k ∧ Wk E k a a) ∧ ∀ g, PerDiv E a g → g = 1

end

noncomputable def flexL (E : Nat → Nat → Prop) (n : Nat) : List Int := by
  classical exact ((List.range n).filter (fun a => decide (Flex E a))).map fun a : Nat => (a : Int)

/-! ### Components by their roots -/

noncomputable def compL (E : Nat → Nat → Prop) (n r : Nat) : List Int := by
  classical exact ((List.range n).filter (fun a => decide (Comp E r a))).map fun a : Nat => (a : Int)
/-- The roots of the components with closed walks, of the labels below a number. -/
structure Roots (E : Nat → Nat → Prop) (a : Nat) (rs : List Nat) : Prop where
  lt : ∀ r ∈ rs, r < a
  cyc : ∀ r ∈ rs, ∃ k, 0 < k ∧ Wk E k r r
  apart : rs.Pairwise fun r q => ¬ Comp E r q
  cover : ∀ b, b < a → (∃ k, 0 < k ∧ Wk E k b b) → ∃ r ∈ rs, Comp E r b

theorem Roots.nil (E : Nat → Nat → Prop) : Roots E 0 [] := ⟨by simp, by simp, List.Pairwise.nil, fun b hb => by omega⟩
theorem Roots.skip {E : Nat → Nat → Prop} {a : Nat} {rs : List Nat} (h : Roots E a rs) (hs : (∃ k, 0 < k ∧ Wk E k a a) → ∃ r ∈ rs, Comp E r a) : Roots E (a + 1) rs :=
  ⟨fun r hr => by have := h.lt r hr; omega, h.cyc, h.apart, fun b hb hc => by
    rcases Nat.lt_or_eq_of_le (Nat.le_of_lt_succ hb) with h1 | rfl
    · exact h.cover b h1 hc
    · exact hs hc⟩
theorem Roots.add {E : Nat → Nat → Prop} {a : Nat} {rs : List Nat} (h : Roots E a rs) (hc : ∃ k, 0 < k ∧ Wk E k a a) (hn : ∀ r ∈ rs, ¬ Comp E r a) : Roots E (a + 1) (rs ++ [a]) :=
  ⟨fun r hr => by
    rcases List.mem_append.1 hr with hr | hr
    · have := h.lt r hr; omega
    · rw [List.mem_singleton.1 hr]; omega, fun r hr => by
    rcases List.mem_append.1 hr with hr | hr
    · exact h.cyc r hr
    · rw [List.mem_singleton.1 hr]; exact hc, by
    rw [List.pairwise_append]
    exact ⟨h.apart, List.pairwise_singleton _ _, fun r hr q hq => by rw [List.mem_singleton.1 hq]; exact hn r hr⟩, fun b hb hcb => by
    rcases Nat.lt_or_eq_of_le (Nat.le_of_lt_succ hb) with h1 | rfl
    · obtain ⟨r, hr, hx⟩ := h.cover b h1 hcb
      exact ⟨r, List.mem_append_left _ hr, hx⟩
    · exact ⟨b, by simp, Comp.refl⟩⟩
end Go.Proofs.YtnhidomgpbohiaaGreatDoor
end

section
/- Plain facts on walk problems and rooted problems: arcs, pruning, roots. No program in sight. -/
namespace Go.Proofs.YtnhidomgpbohiaaGreatDoor
open Go.GX
set_option maxRecDepth 100000

structure WPr where
  labels : Int
  arcs : List (List Int)
structure RPr where
  labels : Int
  children : Int
  lines : List (List Int)

def arcE (A : List (List Int)) (a b : Nat) : Prop := [(a : Int), (b : Int)] ∈ A
/-- Rows that rise and have labels. -/
structure RowsUp (L : List (List Int)) (size labels : Int) : Prop where
  len : ∀ x ∈ L, (x.length : Int) = size
  lab : ∀ x ∈ L, AllIn x 0 (labels - 1)
  up : ∀ i (h : i + 1 < L.length), cmpL L[i] L[i + 1] < 0
theorem RowsUp.lt {L : List (List Int)} {size labels : Int} (h : RowsUp L size labels) : ∀ j i (_ : i < j) (hj : j < L.length), cmpL (L[i]'(by omega)) L[j] < 0 := by
  intro j
  induction j with
  | zero => intro i hi; omega
  | succ j ih =>
    intro i hi hj
    have h2 := h.up j hj
    by_cases he : i = j
    · subst he; exact h2
    · exact cmpL_trans (ih i (by omega) (by omega)) h2

structure WGood (p : WPr) : Prop where
  lab : 1 ≤ p.labels ∧ p.labels ≤ 12
  up : RowsUp p.arcs 2 p.labels
structure RoGood (p : RPr) : Prop where
  lab : 1 ≤ p.labels ∧ p.labels ≤ 8
  chi : 1 ≤ p.children ∧ p.children ≤ 3
  up : RowsUp p.lines (p.children + 1) p.labels
  sort : ∀ x ∈ p.lines, x.tail.Pairwise (· ≤ ·)

/-! ### The path form -/

/-- Some line with labels of a set has a label above another. -/
def pathE (lines : List (List Int)) (S : List Int) (a b : Nat) : Prop := ∃ x ∈ lines, (∀ y ∈ x, y ∈ S) ∧ x.head? = some (a : Int) ∧ (b : Int) ∈ x.tail

/-- The arcs of a path form, in order: rising, and these alone. -/
structure PathArcs (lines : List (List Int)) (S : List Int) (A : List (List Int)) : Prop where
  up : A.Pairwise (fun x y => cmpL x y < 0)
  mem : ∀ y, y ∈ A ↔ ∃ x ∈ lines, (∀ z ∈ x, z ∈ S) ∧ ∃ a, x.head? = some a ∧ ∃ b ∈ x.tail, y = [a, b]

theorem PathArcs.rel {lines : List (List Int)} {S : List Int} {A : List (List Int)} (h : PathArcs lines S A) : arcE A = pathE lines S := by
  funext a b
  refine propext ((h.mem _).trans ⟨?_, ?_⟩)
  · rintro ⟨x, hx, hS, c, hc, d, hd, he⟩
    simp only [List.cons.injEq, and_true] at he
    obtain ⟨rfl, rfl⟩ := he
    exact ⟨x, hx, hS, hc, hd⟩
  · rintro ⟨x, hx, hS, hc, hd⟩
    exact ⟨x, hx, hS, _, hc, _, hd, rfl⟩

theorem PathArcs.good {R : RPr} (hR : RoGood R) {S : List Int} {A : List (List Int)} (h : PathArcs R.lines S A) : WGood ⟨R.labels, A⟩ := by
  have hm : ∀ y ∈ A, (y.length : Int) = 2 ∧ AllIn y 0 (R.labels - 1) := fun y hy => by
    obtain ⟨x, hx, _, a, ha, b, hb, rfl⟩ := (h.mem y).1 hy
    refine ⟨rfl, fun z hz => ?_⟩
    have hl := hR.up.lab x hx
    simp only [List.mem_cons, List.not_mem_nil, or_false] at hz
    rcases hz with rfl | rfl
    · exact hl _ (List.mem_of_head? ha)
    · exact hl _ (List.mem_of_mem_tail hb)
  have hl := hR.lab
  exact ⟨⟨hl.1, by show R.labels ≤ 12; omega⟩, ⟨fun y hy => (hm y hy).1, fun y hy => (hm y hy).2, fun i hi => (List.pairwise_iff_getElem.1 h.up) i (i + 1) (by have : i + 1 < A.length := hi; omega) hi (by omega)⟩⟩

/-! ### Pruning -/

def allL (n : Nat) : List Int := (List.range n).map fun a : Nat => (a : Int)
noncomputable def pruneL (R : RPr) : Nat → List Int
  | 0 => allL R.labels.toNat
  | k + 1 => flexL (pathE R.lines (pruneL R k)) R.labels.toNat

/-- Where pruning ends. -/
def PruneEnd (R : RPr) (k : Nat) : Prop := pruneL R (k + 1) = [] ∨ pruneL R (k + 1) = pruneL R k
structure PruneIs (R : RPr) (L : List (List Int)) : Prop where
  ex : ∃ k, PruneEnd R k ∧ (∀ j < k, ¬ PruneEnd R j) ∧ L = (List.range (k + 2)).map (pruneL R)
/-! ### The labels of roots -/

end Go.Proofs.YtnhidomgpbohiaaGreatDoor
end

section
/- Walk problems, the program: what follows a label, what walks reach. -/
namespace Go.Proofs.YtnhidomgpbohiaaGreatDoor
open Go.GX Go.RowKit
set_option maxRecDepth 100000

structure RWk (w : World) (s : Sl) (p : WPr) : Prop where
  lab : I64 p.labels
  arcs : R w s p.arcs
theorem RWk.ext {w w' : World} {s : Sl} {p : WPr} (h : RWk w s p) (hE : Ext w w') : RWk w' s p := ⟨h.lab, h.arcs.ext hE⟩

/-- The arcs are pairs of labels. -/
theorem WGood.arc {p : WPr} (h : WGood p) {x : List Int} (hx : x ∈ p.arcs) : ∃ a b : Nat, x = [(a : Int), (b : Int)] ∧ a < p.labels.toNat ∧ b < p.labels.toNat := by
  have h1 := h.up.len x hx
  have h2 := h.up.lab x hx
  match x, h1, h2 with
  | [u, v], _, h2 =>
    have h3 := h2 u (by simp)
    have h4 := h2 v (by simp)
    exact ⟨u.toNat, v.toNat, by rw [Int.toNat_of_nonneg h3.1, Int.toNat_of_nonneg h4.1], by omega, by omega⟩
theorem WGood.rel {p : WPr} (h : WGood p) {a b : Nat} (he : arcE p.arcs a b) : a < p.labels.toNat ∧ b < p.labels.toNat := by
  obtain ⟨c, d, e, h1, h2⟩ := h.arc he
  simp only [List.cons.injEq, and_true] at e
  omega

/-! ### What walks reach -/

end Go.Proofs.YtnhidomgpbohiaaGreatDoor
end

section
/- Walk problems, the program: closure, distances, the period of a component. -/
namespace Go.Proofs.YtnhidomgpbohiaaGreatDoor
open Go.GX Go.RowKit
set_option maxRecDepth 100000

/-! ### Closure -/

end Go.Proofs.YtnhidomgpbohiaaGreatDoor
end

section
/- Walk problems, the program: distances, the period of a component. -/
namespace Go.Proofs.YtnhidomgpbohiaaGreatDoor
open Go.GX Go.RowKit
set_option maxRecDepth 100000

/-- Lengths of walks from a label, -1 where none leads. -/
structure DistOk (E : Nat → Nat → Prop) (n a : Nat) (D : List Int) : Prop where
  len : D.length = n
  val : ∀ b (h : b < D.length), D[b] = -1 ∨ ∃ k : Nat, k ≤ n ∧ D[b] = k ∧ Wk E k a b
  all : ∀ b (h : b < D.length), (∃ k, Wk E k a b) → 0 ≤ D[b]
  zero : ∀ h : a < D.length, D[a] = 0

/-- What holds when lengths below k are done, and of length k the labels of a list. -/
structure DistS (E : Nat → Nat → Prop) (n a k : Nat) (L : List Int) (D : List Int) : Prop where
  len : D.length = n
  val : ∀ b (h : b < D.length), D[b] = -1 ∨ ∃ j : Nat, j ≤ n ∧ D[b] = j ∧ Wk E j a b
  low : ∀ b (h : b < D.length), ∀ j, j < k → Wk E j a b → 0 ≤ D[b]
  cur : ∀ b (h : b < D.length), (b : Int) ∈ L → 0 ≤ D[b]
  zero : ∀ h : a < D.length, D[a] = -1 ∨ D[a] = 0

theorem DistS.I64 {E : Nat → Nat → Prop} {n a k : Nat} {L D : List Int} (h : DistS E n a k L D) (hn : n ≤ 1000) : ∀ x ∈ D, I64 x := fun x hx => by
  obtain ⟨b, hb, rfl⟩ := List.mem_iff_getElem.1 hx
  rcases h.val b hb with he | ⟨j, hj, he, _⟩
  · rw [he]; unfold GX.I64; omega
  · rw [he]; unfold GX.I64; omega
theorem DistOk.I64 {E : Nat → Nat → Prop} {n a : Nat} {D : List Int} (h : DistOk E n a D) (hn : n ≤ 1000) : ∀ x ∈ D, -1 ≤ x ∧ x ≤ n := fun x hx => by
  obtain ⟨b, hb, rfl⟩ := List.mem_iff_getElem.1 hx
  rcases h.val b hb with he | ⟨j, hj, he, _⟩
  · rw [he]; omega
  · rw [he]; omega

/-! ### The greatest common divisor -/

/-! ### The period -/

end Go.Proofs.YtnhidomgpbohiaaGreatDoor
end

section
/- A growing list of lists (of any kind) whose parts are only read: the array is the call's own, its parts lie elsewhere. -/
namespace Go.GX
open Go.RowKit
set_option maxRecDepth 100000

structure RowsR {α : Type} [RepP α] (base : Nat) (e : TypeId) (w : World) (s : Sl) (L : List (List α)) : Prop where
  ex : ∃ ss : List Sl, OwnL w base e s ss ∧ ss.length = L.length ∧ ∀ j (h1 : j < ss.length) (h2 : j < L.length), SlR (fun b => s.v.ownBlock ≠ some b) w ss[j] L[j]

section
variable {α : Type} [RepP α] {base : Nat} {e : TypeId} {w w' : World} {s : Sl} {L : List (List α)}

theorem RowsR.rep (h : RowsR base e w s L) : R w s L := by
  obtain ⟨ss, hO, hl, hr⟩ := h.ex
  exact OwnL.rows (D := fun _ => True) hO hl (fun j h1 h2 => (hr j h1 h2).any) fun _ _ => trivial
theorem RowsR.ext (h : RowsR base e w s L) (hE : Ext w w') : RowsR base e w' s L := by
  obtain ⟨ss, hO, hl, hr⟩ := h.ex
  exact ⟨ss, hO.ext hE, hl, fun j h1 h2 => (hr j h1 h2).ext hE⟩
theorem RowsR.nil (base : Nat) (e : TypeId) (w : World) : RowsR base e w ⟨none, 0, 0⟩ ([] : List (List α)) := ⟨[], OwnL.nil _ _ _, rfl, fun j h1 => by simp at h1⟩
theorem RowsR.blk (h : RowsR base e w s L) {k : Nat} (hk : s.v.ownBlock = some k) : base ≤ k ∧ k < w.heap.size := by
  obtain ⟨ss, hO, _⟩ := h.ex
  exact hO.blk k hk
theorem RowsR.low (h : RowsR base e w s L) {b : Nat} (hb : b ≤ base) : RowsR b e w s L := by
  obtain ⟨ss, hO, hl, hr⟩ := h.ex
  exact ⟨ss, hO.low hb, hl, hr⟩
/-- A list of one, its part made before the array. -/
theorem RowsR.one {b1 : Nat} {w0 : World} {r : Sl} {l : List α} (hE : Ext w0 w) (hO : OwnL w b1 e s [r]) (hb1 : w0.heap.size ≤ b1) (hb : base ≤ b1) (hR : R w0 r l) : RowsR base e w s [l] :=
  ⟨_, hO.low hb, rfl, fun j h1 h2 => by
    have hj : j = 0 := by simp at h2; omega
    subst hj
    have hk : ∀ b, True → b < w0.heap.size → s.v.ownBlock ≠ some b := fun b _ hlt he => by have := (hO.blk b he).1; omega
    exact (hR.weak hk RepP.pos).ext hE⟩

/-- What is made after w0 does not lie in an array that was there. -/
theorem RowsR.new (h : RowsR base e w s L) {w1 : World} {r : Sl} {β : Type} [RepP β] {l : List β} (hr : SlR (fun b => w.heap.size ≤ b) w1 r l) : SlR (fun b => s.v.ownBlock ≠ some b) w1 r l :=
  hr.weak (fun b hb _ he => by have := (h.blk he).2; omega) RepP.pos

/-- The same, the parts lying off some more blocks. -/
structure RowsX (X : Nat → Prop) (base : Nat) (e : TypeId) (w : World) (s : Sl) (L : List (List α)) : Prop where
  ex : ∃ ss : List Sl, OwnL w base e s ss ∧ ss.length = L.length ∧ ∀ j (h1 : j < ss.length) (h2 : j < L.length), SlR (fun b => s.v.ownBlock ≠ some b ∧ ¬ X b) w ss[j] L[j]

theorem RowsX.rep {X : Nat → Prop} (h : RowsX X base e w s L) : R w s L := by
  obtain ⟨ss, hO, hl, hr⟩ := h.ex
  exact OwnL.rows (D := fun _ => True) hO hl (fun j h1 h2 => (hr j h1 h2).any) fun _ _ => trivial
theorem RowsX.ext {X : Nat → Prop} (h : RowsX X base e w s L) (hE : Ext w w') : RowsX X base e w' s L := by
  obtain ⟨ss, hO, hl, hr⟩ := h.ex
  exact ⟨ss, hO.ext hE, hl, fun j h1 h2 => (hr j h1 h2).ext hE⟩
theorem RowsX.nil (X : Nat → Prop) (base : Nat) (e : TypeId) (w : World) : RowsX X base e w ⟨none, 0, 0⟩ ([] : List (List α)) := ⟨[], OwnL.nil _ _ _, rfl, fun j h1 => by simp at h1⟩
theorem RowsX.blk {X : Nat → Prop} (h : RowsX X base e w s L) {k : Nat} (hk : s.v.ownBlock = some k) : base ≤ k ∧ k < w.heap.size := by
  obtain ⟨ss, hO, _⟩ := h.ex
  exact hO.blk k hk
/-- Something outside the array changes. -/
theorem RowsX.chg {X X' : Nat → Prop} (h : RowsX X base e w s L) (hC : Chg w w' X) (hs : ∀ b, s.v.ownBlock = some b → ¬ X b) (hX : ∀ b, X' b → b < w.heap.size → X b) : RowsX X' base e w' s L := by
  obtain ⟨ss, hO, hl, hr⟩ := h.ex
  exact ⟨ss, hO.keep fun b hb => hC.block b (hO.blk b hb).2 (hs b hb), hl, fun j h1 h2 =>
    ((hr j h1 h2).weak (D' := fun b => (s.v.ownBlock ≠ some b ∧ ¬ X b) ∧ ¬ X' b) (fun b h3 h4 => ⟨h3, fun hx => h3.2 (hX b hx h4)⟩) RepP.pos).chg hC (fun b hb _ => hb.1.2) |>.weak (fun b hb _ => ⟨hb.1.1, hb.2⟩) RepP.pos⟩

end
end Go.GX
end

section
/- Walk problems, the program: components, flexible labels. -/
namespace Go.Proofs.YtnhidomgpbohiaaGreatDoor
open Go.GX Go.RowKit
set_option maxRecDepth 100000

/-- What is known of components and periods whose roots are some labels. -/
structure CompsIs (E : Nat → Nat → Prop) (n : Nat) (rs : List Nat) (CL : List (List Int)) (PL : List Int) : Prop where
  cl : CL = rs.map (compL E n)
  pl : PL.length = rs.length
  per : ∀ j (h1 : j < PL.length) (h2 : j < rs.length), ∃ P : Nat, PL[j] = P ∧ P ≤ 100 ∧ (P = 1 ↔ Flex E rs[j])
theorem CompsIs.I64 {E : Nat → Nat → Prop} {n : Nat} {rs : List Nat} {CL : List (List Int)} {PL : List Int} (h : CompsIs E n rs CL PL) : ∀ x ∈ PL, I64 x := fun x hx => by
  obtain ⟨j, hj, rfl⟩ := List.mem_iff_getElem.1 hx
  obtain ⟨P, he, hP, _⟩ := h.per j hj (by rw [← h.pl]; exact hj)
  rw [he]; unfold GX.I64; omega
theorem CompsIs.add {E : Nat → Nat → Prop} {n : Nat} {rs : List Nat} {CL : List (List Int)} {PL : List Int} (h : CompsIs E n rs CL PL) {a P : Nat} (hP : P ≤ 100 ∧ (P = 1 ↔ Flex E a)) : CompsIs E n (rs ++ [a]) (CL ++ [compL E n a]) (PL ++ [(P : Int)]) :=
  ⟨by rw [h.cl, List.map_append, List.map_singleton], by simp [h.pl], fun j h1 h2 => by
    have hpl := h.pl
    by_cases hj : j < rs.length
    · rw [List.getElem_append_left (by omega), List.getElem_append_left hj]
      exact h.per j _ hj
    · have : j = rs.length := by simp at h2; omega
      subst this
      refine ⟨P, ?_, hP.1, ?_⟩
      · rw [List.getElem_append_right (by omega)]; simp [hpl]
      · rw [List.getElem_append_right (by omega)]; simpa using hP.2⟩
structure CompsS (w0 : World) (E : Nat → Nat → Prop) (n a : Nat) (s6 s7 : Sl) (x8 : Int) (w : World) : Prop where
  ext : Ext w0 w
  ex : ∃ rs CL PL, Roots E a rs ∧ CompsIs E n rs CL PL ∧ RowsX (oB s7) w0.heap.size T.t_sl_int w s6 CL ∧ OwnL w w0.heap.size T.t_int s7 PL
  done : x8 = ((maskP n (fun b => ∃ r, r < a ∧ Comp E r b) : Nat) : Int)

end Go.Proofs.YtnhidomgpbohiaaGreatDoor
end

section
/- Walk problems, the reference: matrices of pairs of labels. -/
namespace Go.Proofs.YtnhidomgpbohiaaGreatDoor
open Go.GX Go.RowKit
set_option maxRecDepth 100000

abbrev OwnB (base : Nat) (w : World) (s : Sl) (L : List (List Bool)) (ss : List Sl) : Prop := RowsD w base T.t_bool T.t_sl_bool s L ss

theorem OwnB.repD {base : Nat} {w : World} {s : Sl} {L : List (List Bool)} {ss : List Sl} (h : OwnB base w s L ss) : SlR (fun b => base ≤ b) w s L := h.own2.repD fun _ _ _ _ => trivial

end Go.Proofs.YtnhidomgpbohiaaGreatDoor
end

section
/- Walk problems, the reference: powers of the relation, what walks of some length reach. -/
namespace Go.Proofs.YtnhidomgpbohiaaGreatDoor
open Go.GX Go.RowKit
set_option maxRecDepth 100000

end Go.Proofs.YtnhidomgpbohiaaGreatDoor
end

section
/- Walk problems, the reference: depths within a component. -/
namespace Go.Proofs.YtnhidomgpbohiaaGreatDoor
open Go.GX Go.RowKit
set_option maxRecDepth 100000

/-! ### Depths -/

structure DepOk (E : Nat → Nat → Prop) (n a : Nat) (D : List Int) : Prop where
  len : D.length = n
  val : ∀ b (h : b < D.length), D[b] = -1 ∨ ∃ k : Nat, k ≤ n ∧ D[b] = k ∧ Wk E k a b
  all : ∀ b (h : b < D.length), Comp E a b → 0 ≤ D[b]
  zero : ∀ h : a < D.length, D[a] = 0

theorem DepOk.I64 {E : Nat → Nat → Prop} {n a : Nat} {D : List Int} (h : DepOk E n a D) : ∀ x ∈ D, -1 ≤ x ∧ x ≤ n := fun x hx => by
  obtain ⟨b, hb, rfl⟩ := List.mem_iff_getElem.1 hx
  rcases h.val b hb with he | ⟨j, hj, he, _⟩
  · rw [he]; omega
  · rw [he]; omega
/-- How many labels have a depth. -/
def cntN (D : List Int) : Nat := (D.filter fun x => decide (0 ≤ x)).length
theorem cntN_le (D : List Int) : cntN D ≤ D.length := List.length_filter_le _ _
theorem cntN_set : ∀ {D : List Int} {v : Nat} {k : Int} (hv : v < D.length), D[v] < 0 → 0 ≤ k → cntN (D.set v k) = cntN D + 1
  | x :: D, 0, k, _, h1, h2 => by
    have h1' : ¬ 0 ≤ x := by have : x < 0 := h1; omega
    simp [cntN, h1', h2]
  | x :: D, v + 1, k, hv, h1, h2 => by
    have ih := cntN_set (D := D) (v := v) (k := k) (by simpa using hv) (by simpa using h1) h2
    unfold cntN at ih ⊢
    rw [List.set_cons_succ, List.filter_cons, List.filter_cons]
    split
    · rw [List.length_cons, List.length_cons, ih]
    · exact ih

structure DepV (E : Nat → Nat → Prop) (n a : Nat) (D : List Int) : Prop where
  len : D.length = n
  val : ∀ b (h : b < D.length), D[b] = -1 ∨ ∃ k : Nat, k < cntN D ∧ D[b] = k ∧ Wk E k a b
  zero : ∀ h : a < D.length, D[a] = 0
theorem DepV.I64 {E : Nat → Nat → Prop} {n a : Nat} {D : List Int} (h : DepV E n a D) (hn : n ≤ 1000) : ∀ x ∈ D, I64 x := fun x hx => by
  obtain ⟨b, hb, rfl⟩ := List.mem_iff_getElem.1 hx
  have hc := cntN_le D
  have hl := h.len
  rcases h.val b hb with he | ⟨j, hj, he, _⟩
  · rw [he]; unfold GX.I64; omega
  · rw [he]; unfold GX.I64; omega
/-- The arcs of a list lead from depths to depths. -/
def DepCl (A : List (List Int)) (C D : List Int) : Prop := ∀ u v : Nat, arcE A u v → (v : Int) ∈ C → ∀ (hu : u < D.length) (hv : v < D.length), 0 ≤ D[u] → 0 ≤ D[v]

theorem DepV.step {E : Nat → Nat → Prop} {n a u v : Nat} {D : List Int} (h : DepV E n a D) (hu : u < D.length) (hv : v < D.length) (h0 : 0 ≤ D[u]) (hneg : D[v] < 0) (he : E u v) : DepV E n a (D.set v (D[u] + 1)) ∧ cntN (D.set v (D[u] + 1)) = cntN D + 1 := by
  have hc := cntN_set hv hneg (k := D[u] + 1) (by omega)
  refine ⟨⟨by rw [List.length_set]; exact h.len, fun b hb => ?_, fun hh => ?_⟩, hc⟩
  · rw [List.getElem_set, hc]
    by_cases hbv : v = b
    · subst hbv
      rw [if_pos rfl]
      rcases h.val u hu with h1 | ⟨k, hk, h1, hw⟩
      · omega
      · exact .inr ⟨k + 1, by omega, by rw [h1]; push_cast; rfl, u, hw, he⟩
    · rw [if_neg hbv]
      rcases h.val b (by rw [List.length_set] at hb; exact hb) with h1 | ⟨k, hk, h1, hw⟩
      · exact .inl h1
      · exact .inr ⟨k, by omega, h1, hw⟩
  · rw [List.getElem_set]
    by_cases hav : v = a
    · subst hav
      have := h.zero hv
      omega
    · rw [if_neg hav]; exact h.zero (by rw [List.length_set] at hh; exact hh)

theorem DepCl.all {p : WPr} {n r : Nat} {C D : List Int} (hg : WGood p) (hn : p.labels.toNat = n) (hm : ∀ b : Nat, (b : Int) ∈ C ↔ b < n ∧ Comp (arcE p.arcs) r b) (hl : D.length = n) (h0 : ∀ h : r < D.length, D[r] = 0) (hcl : DepCl p.arcs C D) : ∀ b (h : b < D.length), Comp (arcE p.arcs) r b → 0 ≤ D[b] := by
  have go : ∀ k b, Wk (arcE p.arcs) k r b → Comp (arcE p.arcs) r b → ∀ h : b < D.length, 0 ≤ D[b] := by
    intro k
    induction k with
    | zero => intro b hw _ h; cases hw; rw [h0 h]; omega
    | succ k ih =>
      rintro b ⟨c, hw, he⟩ hc h
      have hcc : Comp (arcE p.arcs) r c := by
        obtain ⟨_, j, q⟩ := hc
        exact ⟨⟨k, hw⟩, _, (Wk.one he).cat q⟩
      have hr2 := hg.rel he
      have hcl2 : c < D.length := by omega
      exact hcl c b he ((hm b).2 ⟨by omega, hc⟩) hcl2 h (ih c hw hcc hcl2)
  intro b h hc
  obtain ⟨⟨k, hw⟩, _⟩ := id hc
  exact go k b hw hc h

end Go.Proofs.YtnhidomgpbohiaaGreatDoor
end

section
/- Walk problems, the reference: components, flexible labels. -/
namespace Go.Proofs.YtnhidomgpbohiaaGreatDoor
open Go.GX Go.RowKit
set_option maxRecDepth 100000

structure WRec where
  a : Sl
  p : Int
  b : Sl

instance : Rep WRec where
  sz := 3
  rep _ _ cs r := cs = [r.a.v, .int .i64 r.p, r.b.v]
  len h := by rw [h]; rfl
  agr _ h := h
  weak _ h := h
instance : RepP WRec := ⟨by decide⟩
theorem one3w (x : Sl) (y : Int) (z : Sl) : ∀ v ∈ [x.v, Value.int .i64 y, z.v], v.oneCell' = true := by intro v hv; simp at hv; rcases hv with rfl | rfl | rfl <;> rfl
instance : Flat WRec where
  cells r := [r.a.v, .int .i64 r.p, r.b.v]
  ok _ := True
  size _ := rfl
  one r v hv := one3w r.a r.p r.b v hv
  repOk _ := rfl
  ofRep h := ⟨h, trivial⟩

/-- What is known of the parts. -/
structure PartIs (E : Nat → Nat → Prop) (r : Nat) (P : Int) : Prop where
  ex : ∃ q : Nat, P = q ∧ q ≤ 100 ∧ (q = 1 ↔ Flex E r)
structure PartsO (base : Nat) (w : World) (s : Sl) (E : Nat → Nat → Prop) (n : Nat) (rs : List Nat) : Prop where
  ex : ∃ recs : List WRec, OwnL w base T.t_s_waPart s recs ∧ recs.length = rs.length ∧ ∀ j (h1 : j < recs.length) (h2 : j < rs.length), SlR (fun b => base ≤ b ∧ s.v.ownBlock ≠ some b) w recs[j].a (compL E n rs[j]) ∧ PartIs E rs[j] recs[j].p

theorem PartsO.nil (base : Nat) (w : World) (E : Nat → Nat → Prop) (n : Nat) : PartsO base w ⟨none, 0, 0⟩ E n [] := ⟨[], OwnL.nil _ _ _, rfl, fun j h1 => by simp at h1⟩
theorem PartsO.keep {base : Nat} {w w' : World} {s : Sl} {E : Nat → Nat → Prop} {n : Nat} {rs : List Nat} (h : PartsO base w s E n rs) {D : Nat → Prop} (hC : Chg w w' D) (hD : ∀ b, base ≤ b → ¬ D b) : PartsO base w' s E n rs := by
  obtain ⟨recs, hO, hl, hr⟩ := h.ex
  exact ⟨recs, hO.keep fun b hb => hC.block b (hO.blk b hb).2 (hD b (hO.blk b hb).1), hl, fun j h1 h2 => ⟨(hr j h1 h2).1.chg hC fun b hb _ => hD b hb.1, (hr j h1 h2).2⟩⟩

end Go.Proofs.YtnhidomgpbohiaaGreatDoor
end

section
/- Walk problems, the reference: flexible labels. -/
namespace Go.Proofs.YtnhidomgpbohiaaGreatDoor
open Go.GX Go.RowKit
set_option maxRecDepth 100000

end Go.Proofs.YtnhidomgpbohiaaGreatDoor
end

section
/- Rooted problems: valid ones, both sides; lines with labels of a set. -/
namespace Go.Proofs.YtnhidomgpbohiaaGreatDoor
open Go.GX Go.RowKit
set_option maxRecDepth 100000

structure RRo (w : World) (s : Sl) (p : RPr) : Prop where
  lab : I64 p.labels
  chi : I64 p.children
  lines : R w s p.lines
theorem RRo.ext {w w' : World} {s : Sl} {p : RPr} (h : RRo w s p) (hE : Ext w w') : RRo w' s p := ⟨h.lab, h.chi, h.lines.ext hE⟩

/-- A line as it is asked. -/
def RowGood (p : RPr) (x : List Int) : Prop := (x.length : Int) = p.children + 1 ∧ AllIn x 0 (p.labels - 1) ∧ x.tail.Pairwise (· ≤ ·)
theorem RoGood.of {p : RPr} (h1 : 1 ≤ p.labels ∧ p.labels ≤ 8) (h2 : 1 ≤ p.children ∧ p.children ≤ 3) (h3 : ∀ u (hu : u < p.lines.length), RowGood p p.lines[u]) (h4 : ∀ u (hu : u + 1 < p.lines.length), cmpL p.lines[u] p.lines[u + 1] < 0) : RoGood p :=
  have key : ∀ x ∈ p.lines, RowGood p x := fun x hx => by
    obtain ⟨u, hu, rfl⟩ := List.mem_iff_getElem.1 hx
    exact h3 u hu
  ⟨h1, h2, ⟨fun x hx => (key x hx).1, fun x hx => (key x hx).2.1, h4⟩, fun x hx => (key x hx).2.2⟩
theorem RoGood.row {p : RPr} (h : RoGood p) {u : Nat} (hu : u < p.lines.length) : RowGood p p.lines[u] := ⟨h.up.len _ (List.getElem_mem hu), h.up.lab _ (List.getElem_mem hu), h.sort _ (List.getElem_mem hu)⟩

end Go.Proofs.YtnhidomgpbohiaaGreatDoor
end

section
/- Texts of rooted problems: written and read, both sides. -/
namespace Go.Proofs.YtnhidomgpbohiaaGreatDoor
open Go.GX Go.RowKit
open Go.Lib (decDigits)
set_option maxRecDepth 100000

/-- Numbers of a rooted problem's text. -/
def Six (l : List Int) : Prop := ∀ x ∈ l, -1 ≤ x ∧ x < 1000000
theorem RoGood.head {p : RPr} (h : RoGood p) : Six [p.labels, p.children] := by
  intro x hx
  have h1 := h.lab
  have h2 := h.chi
  simp only [List.mem_cons, List.not_mem_nil, or_false] at hx
  rcases hx with rfl | rfl <;> omega
theorem RoGood.six {p : RPr} (h : RoGood p) : ∀ x ∈ p.lines, Six x := by
  intro x hx y hy
  have h1 := h.lab
  have h2 := h.up.lab x hx y hy
  omega

/-! ### Written -/

theorem linesS_snoc (L : List (List UInt8)) (x : List UInt8) : linesS (L ++ [x]) = linesS L ++ (x ++ [10]) := by simp [linesS]
theorem linesS_len {n : Nat} : ∀ {L : List (List UInt8)}, (∀ x ∈ L, x.length + 1 ≤ n) → (linesS L).length ≤ n * L.length
  | [], _ => by simp [linesS]
  | x :: L, h => by
    have h1 := h x (by simp)
    have h2 := linesS_len (L := L) fun y hy => h y (by simp [hy])
    simp only [linesS, List.flatMap_cons, List.length_append, List.length_cons, List.length_nil] at h2 ⊢
    rw [Nat.mul_succ]; omega

/-- Rows of few numbers. -/
def Few (L : List (List Int)) : Prop := L.length ≤ 10000000 ∧ ∀ x ∈ L, x.length ≤ 10 ∧ Six x
theorem few_len {L : List (List Int)} {w : List UInt8} (h : Few L) (hw : w.length ≤ 20) : ∀ x ∈ L.map (lineS w), x.length + 1 ≤ 100 := by
  intro x hx
  obtain ⟨y, hy, rfl⟩ := List.mem_map.1 hx
  have h1 := h.2 y hy
  have h2 := lineS_len w (l := y) fun z hz => (h1.2 z hz).2
  omega
theorem RoGood.few {p : RPr} (h : RoGood p) (hl : p.lines.length ≤ 10000000) : Few p.lines :=
  ⟨hl, fun x hx => ⟨by have := h.up.len x hx; have := h.chi; omega, h.six x hx⟩⟩
end Go.Proofs.YtnhidomgpbohiaaGreatDoor
end

section
/- Rows of numbers written as lines, one behind the other: the loops that do it; a strings.Builder of the call's own. -/
namespace Go.Proofs.YtnhidomgpbohiaaGreatDoor
open Go.GX Go.RowKit
open Go.Lib (decDigits)
set_option maxRecDepth 100000

/-- A loop's dead values. -/
theorem dropV2 {α : Type} {w : World} {a : α} {C : (α → Int → World → Prop) → (α → Int → World → Nat) → α → Int → World → Prop} (h : ∃ (I : α → Int → World → Prop) (m : α → Int → World → Nat), I a 0 w ∧ ∀ (l : α) (x : Int) w5, I l x w5 → C I m l x w5) :
    ∃ (I : α → Int → World → Prop) (m : α → Int → World → Nat), I a 0 w ∧ ∀ (l : α) (x : Int) w5, I l x w5 → ∀ _ : Value, C I m l x w5 := by
  obtain ⟨I, m, h1, h2⟩ := h
  exact ⟨I, m, h1, fun l x w5 h _ => h2 l x w5 h⟩
theorem dropV1 {w : World} {C : (Int → World → Prop) → (Int → World → Nat) → Int → World → Prop} (h : ∃ (I : Int → World → Prop) (m : Int → World → Nat), I 0 w ∧ ∀ (x : Int) w5, I x w5 → C I m x w5) :
    ∃ (I : Int → World → Prop) (m : Int → World → Nat), I 0 w ∧ ∀ (x : Int) w5, I x w5 → ∀ _ : Value, C I m x w5 := by
  obtain ⟨I, m, h1, h2⟩ := h
  exact ⟨I, m, h1, fun x w5 h _ => h2 x w5 h⟩

theorem appLoop {w0 w : World} (g : GP w0) {b : Nat} {t out0 : Sl} {L : List (List Int)} {wd : List UInt8} {done : List (List UInt8)} (hL : R w0 t L) (hF : Few L) (hwd : wd.length ≤ 20) (hE : Ext w0 w) (hO : OwnL w b T.t_string out0 (done.map mkS)) (hb : w0.heap.size ≤ b ∧ b ≤ w.heap.size) (hd : done.length ≤ 30000000)
    {K : Sl → World → Prop} (hk : ∀ out w', Ext w0 w' → OwnL w' b T.t_string out ((done ++ L.map (lineS wd)).map mkS) → b ≤ w'.heap.size → K out w') :
    ∃ (I : Sl → Int → World → Prop) (m : Sl → Int → World → Nat), I out0 0 w ∧ ∀ (lines : Sl) (x : Int) w5, I lines x w5 →
      cond (decide ((x : Int) < t.len)) (
      IX t x 1 fun (pa : Addr) =>
      LD [.sl] pa w5 fun (y : Sl) =>
      Calls Tryz.prog F.i_wordsLine #[.string (mkS wd), y.v] w5 (Ret [.at .str] fun (z : ByteArray) w6 =>
      RUN Tryz.prog (.at .sl) (Instr.buildSlice T.t_sl_string 1 #[(0, .string z)]) w6 fun (u : Sl) w7 =>
      RUN Tryz.prog (.at .sl) (bsem .append #[T.t_sl_string, T.t_sl_string] T.t_sl_string #[lines.v, u.v]) w7 fun (r : Sl) w8 =>
      I r (IntKind.i64.wrap (x + 1)) w8 ∧ m r (IntKind.i64.wrap (x + 1)) w8 < m lines x w5)) (
      K lines w5) := by
  rw [hL.len]
  refine ⟨IN2 L.length fun i (out : Sl) w' => Ext w0 w' ∧ b ≤ w'.heap.size ∧ OwnL w' b T.t_string out ((done ++ (L.take i).map (lineS wd)).map mkS), MN2 L.length, IN2_zero ⟨hE, hb.2, by simpa using hO⟩, ?_⟩
  rintro out _ w5 ⟨i, rfl, hi, hE5, hbw, hO5⟩
  refine cond_dec (fun hlt => ?_) (fun hge => ?_)
  · have hi' : i < L.length := by omega
    have hrow := hF.2 L[i] (List.getElem_mem hi')
    have hF1 := hF.1
    refine (hL.ext hE5).ixL hi' fun q t ht hc => LD_sl hc ?_
    refine call (wordsLine_ok (wd := wd) (g.ext hE5) ht.any hrow.2 (by omega) (by omega)) ?_
    rintro _ w6 ⟨rfl, hE6⟩
    refine RUN_lit1 (α := ByteArray) slt_str (mkS (lineS wd L[i])) rfl (by decide) fun z w7 hE7 hO7 => ?_
    have hOb := (hO5.ext hE6).ext hE7
    have hz6 := hE6.size_le
    have hz7 := hE7.size_le
    have hln : ((done ++ (L.take i).map (lineS wd)).map mkS).length = done.length + i := by simp [Nat.min_eq_left hi]
    refine RUN_append (α := ByteArray) slt_str hOb (by omega) (hO7.rep (strs_ok _)).any (by rw [hln, List.length_singleton]; omega) (by rw [hln, List.length_singleton]; unfold maxLen; omega) fun r w8 hO8 hs8 => ?_
    have hz8 := hs8.size
    refine IN2_next (by omega) hi' ⟨hs8.ext0 ((hE5.trans hE6).trans hE7) fun k hk => by have := (hOb.blk k hk).1; omega, by omega, ?_⟩
    have e : (done ++ (L.take (i + 1)).map (lineS wd)).map mkS = (done ++ (L.take i).map (lineS wd)).map mkS ++ [mkS (lineS wd L[i])] := by
      simp only [List.take_succ_eq_append_getElem hi', List.map_append, List.map_cons, List.map_nil, List.append_assoc]
    rw [e]; exact hO8
  · have : i = L.length := by omega
    subst this
    rw [List.take_length] at hO5
    exact hk _ _ hE5 hO5 hbw

theorem catLoop {w0 w : World} {t : Sl} {L : List (List Int)} {wd done : List UInt8} (hL : R w0 t L) (hF : Few L) (hwd : wd.length ≤ 20) (hE : Ext w0 w) (hd : done.length ≤ 100000000000)
    {K : ByteArray → World → Prop} (hk : ∀ w', Ext w0 w' → K (mkS (done ++ linesS (L.map (lineS wd)))) w') :
    ∃ (I : ByteArray → Int → World → Prop) (m : ByteArray → Int → World → Nat), I (mkS done) 0 w ∧ ∀ (out : ByteArray) (x : Int) w5, I out x w5 →
      cond (decide ((x : Int) < t.len)) (
      IX t x 1 fun (pa : Addr) =>
      LD [.sl] pa w5 fun (y : Sl) =>
      Calls Tryz.prog F.s_maLine #[.string (mkS wd), y.v] w5 (Ret [.at .str] fun (z : ByteArray) w6 =>
      z.size + (mkS [10]).size ≤ 9223372036854775807 ∧ (
      out.size + (z ++ mkS [10]).size ≤ 9223372036854775807 ∧ (
      I (out ++ (z ++ mkS [10])) (IntKind.i64.wrap (x + 1)) w6 ∧ m (out ++ (z ++ mkS [10])) (IntKind.i64.wrap (x + 1)) w6 < m out x w5)))) (
      K out w5) := by
  rw [hL.len]
  refine ⟨IN2 L.length fun i (out : ByteArray) w' => Ext w0 w' ∧ out = mkS (done ++ linesS ((L.take i).map (lineS wd))), MN2 L.length, IN2_zero ⟨hE, by simp [linesS]⟩, ?_⟩
  rintro _ _ w5 ⟨i, rfl, hi, hE5, rfl⟩
  refine cond_dec (fun hlt => ?_) (fun hge => ?_)
  · have hi' : i < L.length := by omega
    have hrow := hF.2 L[i] (List.getElem_mem hi')
    have hF1 := hF.1
    refine (hL.ext hE5).ixL hi' fun q t ht hc => LD_sl hc ?_
    refine call (maLine_ok (wd := wd) ht.any hrow.2 (by omega) (by omega)) ?_
    rintro _ w6 ⟨rfl, hE6⟩
    have hll := few_len hF hwd
    have hlb := linesS_len (n := 100) (L := (L.take i).map (lineS wd)) fun x hx => hll x (by
      obtain ⟨y, hy, rfl⟩ := List.mem_map.1 hx
      exact List.mem_map_of_mem (List.mem_of_mem_take hy))
    rw [List.length_map, List.length_take, Nat.min_eq_left hi] at hlb
    have hl1 := hll (lineS wd L[i]) (List.mem_map_of_mem (List.getElem_mem hi'))
    refine ⟨by rw [mkS_size, mkS_size]; simp only [List.length_cons, List.length_nil]; omega, ?_⟩
    rw [mkS_app]
    refine ⟨by rw [mkS_size, mkS_size]; simp only [List.length_append, List.length_cons, List.length_nil]; omega, IN2_next (by omega) hi' ⟨hE5.trans hE6, ?_⟩⟩
    rw [mkS_app, List.take_succ_eq_append_getElem hi', List.map_append, List.map_singleton, linesS_snoc, List.append_assoc]
  · have : i = L.length := by omega
    subst this
    rw [List.take_length]
    exact hk _ hE5

/-! ### A builder of the call's own -/

theorem Srt.lays166 : Go.Proofs.Lays.n166 Tryz.prog Srt.lays156_ren := { Srt.lays156 with }

/-- A builder that holds bytes. -/
def Bld (w : World) (B : Nat) (p : Addr) (l : List UInt8) : Prop := ∃ b, p = ⟨b, 0, none⟩ ∧ Go.Lib.IsBuilder (Srt.lays156_ren.t 72) (Srt.lays156_ren.t 5) B b (Go.Lib.byteCells l) w

theorem builderAt_ext {T e : TypeId} {B b : Nat} {p : Value} {bs : List Value} {w w' : World} (h : Go.Lib.BuilderAt T e B b p bs w) (hE : Ext w w') : Go.Lib.BuilderAt T e B b p bs w' := by
  have hlt := h.lt
  obtain ⟨hB, v, hb, hown, hne⟩ := h
  refine ⟨hB, v, by rw [hE.same hlt]; exact hb, ?_, hne⟩
  exact hown.kept (row := some b) ⟨hE.os, hE.tape, hE.output, hE.size, fun k hk _ => hE.same hk⟩ (.inr hne)
theorem Bld.ext {w w' : World} {B : Nat} {p : Addr} {l : List UInt8} (h : Bld w B p l) (hE : Ext w w') : Bld w' B p l := by
  obtain ⟨b, rfl, h | h⟩ := h
  · exact ⟨b, rfl, .inl (builderAt_ext h hE)⟩
  · exact ⟨b, rfl, .inr (builderAt_ext h hE)⟩

theorem Bld.fresh {w : World} {B : Nat} {p : Addr} (hb : Box w p T.t_strings_Builder [.pointer none, .slice none 0 0]) (hB : B ≤ p.block) : Bld w B p [] := by
  obtain ⟨b, o, sp⟩ := p
  obtain ⟨h1, h2, h3⟩ := hb
  simp only at h1 h2 h3 hB
  subst h1; subst h2
  exact ⟨b, rfl, .inl ⟨hB, .slice none 0 0, h3, World.ownsRow_nil w B _ 1, by simp [Value.ownBlock]⟩⟩

theorem WriteString_ok {w : World} {B : Nat} {p : Addr} {l m : List UInt8} (h : Bld w B p l) (hB : B ≤ w.heap.size) (hl : l.length + m.length ≤ 140737488355328) :
    Calls Tryz.prog F.ptr_strings_Builder_WriteString #[.pointer (some p), .string (mkS m)] w (Ret [.at (.int .i64), .at .val] fun (_ : Int) (_ : Value) w' => Below B w w' ∧ Bld w' B p (l ++ m)) := by
  obtain ⟨b, rfl, h⟩ := h
  refine (Any.Builder_WriteString Srt.lays166 Srt.Builder_Extra_156 B b (Go.Lib.byteCells l) (mkS m) w h (by unfold Go.Lib.byteCells; rw [List.length_map, mkS_size]; exact hl) hB).mono ?_
  rintro e w' ⟨rfl, h1, h2⟩
  refine ⟨h2, b, rfl, .inr ?_⟩
  have : Go.Lib.byteCells (l ++ m) = Go.Lib.byteCells l ++ Go.Lib.strCells (mkS m) := by
    unfold Go.Lib.byteCells Go.Lib.strCells
    rw [List.map_append, mkS_data]
  rw [this]; exact h1

theorem BString_ok {w : World} {B : Nat} {p : Addr} {l : List UInt8} (h : Bld w B p l) (hB : B ≤ w.heap.size) :
    Calls Tryz.prog F.ptr_strings_Builder_String #[.pointer (some p)] w (Ret [.at .str] fun (r : ByteArray) w' => r = mkS l ∧ Below B w w') := by
  obtain ⟨b, rfl, h⟩ := h
  refine (Srt.Builder_String_any B b l w h hB).mono ?_
  rintro e w' ⟨rfl, h2⟩
  exact ⟨rfl, h2⟩

end Go.Proofs.YtnhidomgpbohiaaGreatDoor
end

section
/- Texts of problems and of bounds: both sides. -/
namespace Go.Proofs.YtnhidomgpbohiaaGreatDoor
open Go.GX Go.RowKit
open Go.Lib (decDigits)
set_option maxRecDepth 100000

def wProblem : List UInt8 := [112, 114, 111, 98, 108, 101, 109]
def wNode : List UInt8 := [110, 111, 100, 101]
def wEdge : List UInt8 := [101, 100, 103, 101]
def wMap : List UInt8 := [109, 97, 112]
def wNot : List UInt8 := [110, 111, 116]
def prLinesS (q : Prob) : List (List UInt8) := lineS wProblem [q.labels, q.degree] :: (q.nodes.map (lineS wNode) ++ q.edges.map (lineS wEdge))
def prTextS (q : Prob) : List UInt8 := linesS (prLinesS q)
def boTextS (B : Bnd) : List UInt8 := B.ps.flatMap prTextS ++ (linesS (B.maps.map (lineS wMap)) ++ linesS (B.pairs.map (lineS wNot)))

theorem PGood.head {q : Prob} (h : PGood q) : Six [q.labels, q.degree] := by
  intro x hx
  have h1 := h.lab
  have h2 := h.deg
  simp only [List.mem_cons, List.not_mem_nil, or_false] at hx
  rcases hx with rfl | rfl <;> omega
theorem ConfOk.few {L : List (List Int)} {s n : Int} (h : ConfOk L s n) (hs : s ≤ 10) (hn : n ≤ 1000) (hl : L.length ≤ 10000000) : Few L :=
  ⟨hl, fun x hx => by
    obtain ⟨i, hi, rfl⟩ := List.mem_iff_getElem.1 hx
    obtain ⟨h1, _, h3⟩ := h.row i hi
    exact ⟨by omega, fun y hy => by have := h3 y hy; omega⟩⟩
theorem PGood.fewN {q : Prob} (h : PGood q) (hs : SmallP q) : Few q.nodes := h.nodes.few (by have := h.deg; omega) (by have := h.lab; omega) (by have := hs.1.1; omega)
theorem PGood.fewE {q : Prob} (h : PGood q) (hs : SmallP q) : Few q.edges := h.edges.few (by omega) (by have := h.lab; omega) (by have := hs.2.1; omega)

theorem prLines_len {q : Prob} (h : PGood q) (hn : Few q.nodes) (he : Few q.edges) : ∀ x ∈ prLinesS q, x.length + 1 ≤ 100 := by
  intro x hx
  rcases List.mem_cons.1 hx with rfl | hx
  · have := lineS_len wProblem (l := [q.labels, q.degree]) fun z hz => (h.head z hz).2
    have e : wProblem.length = 7 := rfl
    simp only [List.length_cons, List.length_nil] at this; omega
  · rcases List.mem_append.1 hx with hx | hx
    · exact few_len hn (by decide) x hx
    · exact few_len he (by decide) x hx
theorem prText_len {q : Prob} (h : PGood q) (hn : Few q.nodes) (he : Few q.edges) : (prTextS q).length ≤ 3000000000 := by
  have h1 := linesS_len (prLines_len h hn he)
  have h2 : (prLinesS q).length = 1 + (q.nodes.length + q.edges.length) := by simp [prLinesS]; omega
  have h3 := hn.1
  have h4 := he.1
  unfold prTextS
  omega

theorem problemText_ok {w : World} (g : GP w) {c d : Sl} {q : Prob} (h : RProb w c d q) (hg : PGood q) (hn : Few q.nodes) (he : Few q.edges) :
    Calls Tryz.prog F.i_problemText #[.agg #[.int .i64 q.labels, .int .i64 q.degree, c.v, d.v]] w (Ret [.at .str] fun (r : ByteArray) w' => r = mkS (prTextS q) ∧ Ext w w') := by
  refine C_i_problemText ?_
  unfold V_i_problemText
  refine NEW_intro fun pp w1 hp1 hs1 hE1 hb1 => LD_bi0 hb1 (LD_bi1 hb1 ?_)
  refine RUN_lits slt_int [q.labels, q.degree] (by simp) (by simp) rfl (by rfl) fun y w2 hE2 hO2 => ?_
  have hI : ∀ x ∈ [q.labels, q.degree], I64 x := fun x hx => by have := hg.head x hx; show I64 _; unfold I64; omega
  have hE02 := hE1.trans hE2
  rw [mk_lit [112, 114, 111, 98, 108, 101, 109], mk_lit [10], mk_lit [110, 111, 100, 101], mk_lit [101, 100, 103, 101]]
  refine call (wordsLine_ok (wd := wProblem) (g.ext hE02) (hO2.rep hI).any hg.head (by simp) (by decide)) ?_
  rintro _ w3 ⟨rfl, hE3⟩
  refine RUN_lit1 (α := ByteArray) slt_str (mkS (lineS wProblem [q.labels, q.degree])) rfl (by decide) fun z w4 hE4 hO4 => ?_
  have hE24 := hE3.trans hE4
  have hE04 := hE02.trans hE24
  have hz3 := (hE02.trans hE3).size_le
  have hz4 := hE4.size_le
  refine LD_bs2 (hb1.ext (hE2.trans hE24)) ?_
  have hE14 := hE2.trans hE24
  have hz2 := hE2.size_le
  have hz3' := hE3.size_le
  have h1 := h.ext hE1
  repeat' (with_reducible refine dropV2 ?_)
  refine appLoop (w0 := w1) (g.ext hE1) (done := [lineS wProblem [q.labels, q.degree]]) (wd := wNode) h1.nodes hn (by decide) hE14 hO4 ⟨by omega, hz4⟩ (by simp) fun out w5 hE5 hO5 hbw => ?_
  refine LD_bs3 (hb1.ext hE5) ?_
  repeat' (with_reducible refine dropV2 ?_)
  refine appLoop (w0 := w1) (g.ext hE1) (wd := wEdge) h1.edges he (by decide) hE5 hO5 ⟨by omega, hbw⟩ (by have := hn.1; simp only [List.length_append, List.length_map, List.length_cons, List.length_nil]; omega) fun out2 w6 hE6 hO6 hbw6 => ?_
  have hall : [lineS wProblem [q.labels, q.degree]] ++ q.nodes.map (lineS wNode) ++ q.edges.map (lineS wEdge) = prLinesS q := by simp [prLinesS]
  rw [hall] at hO6
  have hlen := prLines_len hg hn he
  have hne : prLinesS q ≠ [] := by simp [prLinesS]
  have hend := intercalate_end 10 hne
  have htl := prText_len hg hn he
  have hcl : (prLinesS q).length ≤ 30000000 := by
    have h2 : (prLinesS q).length = 1 + (q.nodes.length + q.edges.length) := by simp [prLinesS]; omega
    have := hn.1
    have := he.1
    omega
  have htl2 : ([10].intercalate (prLinesS q)).length + 1 = (prTextS q).length := by
    have := congrArg List.length hend
    simpa [prTextS, linesS] using this
  refine call (Join_ok (sep := [10]) hO6 (by omega) (by omega)) ?_
  rintro _ w9 ⟨rfl, hE9⟩
  refine ⟨by rw [mkS_size, mkS_size]; simp; omega, ?_, (hE1.trans hE6).trans hE9⟩
  rw [mkS_app]
  exact congrArg mkS hend

theorem prText_ok {w : World} {c d : Sl} {q : Prob} (h : RProb w c d q) (hg : PGood q) (hn : Few q.nodes) (he : Few q.edges) :
    Calls Tryz.prog F.s_prText #[.agg #[.int .i64 q.labels, .int .i64 q.degree, c.v, d.v]] w (Ret [.at .str] fun (r : ByteArray) w' => r = mkS (prTextS q) ∧ Ext w w') := by
  refine C_s_prText ?_
  unfold V_s_prText
  refine NEW_intro fun pp w1 hp1 hs1 hE1 hb1 => LD_bi0 hb1 (LD_bi1 hb1 ?_)
  refine RUN_lits slt_int [q.labels, q.degree] (by simp) (by simp) rfl (by rfl) fun y w2 hE2 hO2 => ?_
  have hI : ∀ x ∈ [q.labels, q.degree], I64 x := fun x hx => by have := hg.head x hx; show I64 _; unfold I64; omega
  have hE02 := hE1.trans hE2
  rw [mk_lit [112, 114, 111, 98, 108, 101, 109], mk_lit [10], mk_lit [110, 111, 100, 101], mk_lit [101, 100, 103, 101]]
  refine call (maLine_ok (wd := wProblem) (hO2.rep hI).any hg.head (by simp) (by decide)) ?_
  rintro _ w3 ⟨rfl, hE3⟩
  have h1 := h.ext hE1
  have hE13 := hE2.trans hE3
  have hlen := prLines_len hg hn he
  have h100 := hlen _ (List.mem_cons_self ..)
  refine ⟨by rw [mkS_size, mkS_size]; simp only [List.length_cons, List.length_nil]; omega, LD_bs2 (hb1.ext hE13) ?_⟩
  rw [mkS_app]
  repeat' (with_reducible refine dropV2 ?_)
  refine catLoop (w0 := w1) (wd := wNode) h1.nodes hn (by decide) hE13 (by simp only [List.length_append, List.length_cons, List.length_nil]; omega) fun w5 hE5 => ?_
  refine LD_bs3 (hb1.ext hE5) ?_
  have hnl := linesS_len (few_len hn (w := wNode) (by decide))
  rw [List.length_map] at hnl
  have hn1 := hn.1
  repeat' (with_reducible refine dropV2 ?_)
  refine catLoop (w0 := w1) (wd := wEdge) h1.edges he (by decide) hE5 (by simp only [List.length_append, List.length_cons, List.length_nil]; omega) fun w6 hE6 => ?_
  refine ⟨?_, hE1.trans hE6⟩
  have : lineS wProblem [q.labels, q.degree] ++ [10] ++ linesS (q.nodes.map (lineS wNode)) ++ linesS (q.edges.map (lineS wEdge)) = prTextS q := by simp [prTextS, prLinesS, linesS]
  rw [this]

end Go.Proofs.YtnhidomgpbohiaaGreatDoor
end
