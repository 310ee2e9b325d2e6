/- Own texts, merged: Join2, CutBoundWalk, JoinBoundsWalk, Door. -/
import Derived.Test.YtndebacmnpghkaaGreatM8
import Derived.Test.YtndebacmnpghkaaGreatRows
import Derived.KernelRfl
import Derived.JoinedOf
set_option linter.unusedVariables false
section
/- JoinBounds, both sides. -/
namespace Go.Proofs.YtndebacmnpghkaaGreat
open Go.GX Go.RowKit
set_option maxRecDepth 100000

def jnd (A B : Bnd) : List Prob := A.ps ++ B.ps.drop 1

/-- What is asked of two bounds that are joined. -/
structure JbAsked (A B : Bnd) : Prop where
  okA : PsOk A.ps
  rightA : Right A
  okB : PsOk B.ps
  rightB : Right B
  same : pAt A.ps (A.ps.length - 1) = pAt B.ps 0
  join : BbAsked (jnd A B)

theorem jnd_small {A B : Bnd} (hA : SmallB A) (hB : SmallB B) : ∀ q ∈ jnd A B, SmallP q := fun q hq => by
  rcases List.mem_append.1 hq with h | h
  · exact hA.ps q h
  · exact hB.ps q (List.mem_of_mem_drop h)

/-- Records of two lists, one behind the other. -/
theorem join_rep {w w' : World} {base : Nat} {e : TypeId} {s : Sl} {l m : List Prob} {rs qs : List PRec} (hE : Ext w w') (hO : OwnL w' base e s (rs ++ qs))
    (h1 : rs.length = l.length) (r1 : ∀ j (h1 : j < rs.length) (h2 : j < l.length), RecOf (fun _ => True) w rs[j] l[j])
    (h2 : qs.length = m.length) (r2 : ∀ j (h1 : j < qs.length) (h2 : j < m.length), RecOf (fun _ => True) w qs[j] m[j]) : R w' s (l ++ m) :=
  recs_rep hO (by simp [h1, h2]) (fun j k1 k2 => by
    by_cases hj : j < rs.length
    · have hj2 : j < l.length := by omega
      rw [List.getElem_append_left hj, List.getElem_append_left hj2]
      exact (r1 j hj hj2).ext hE
    · have k1' : j - rs.length < qs.length := by rw [List.length_append] at k1; omega
      have k2' : j - l.length < m.length := by rw [List.length_append] at k2; omega
      rw [List.getElem_append_right (by omega), List.getElem_append_right (by omega)]
      have := (r2 (j - l.length) (by omega) k2').ext hE
      have e : j - rs.length = j - l.length := by omega
      simp only [e]
      exact this) (fun _ _ => trivial) (fun _ _ => trivial)

theorem JoinBounds_ok {w : World} {a b c x y z : Sl} {A B : Bnd} (h : RBnd w a b c A) (h' : RBnd w x y z B) (hs : SmallB A) (hs' : SmallB B) :
    Calls Tryz.prog F.i_JoinBounds #[.agg #[a.v, b.v, c.v], .agg #[x.v, y.v, z.v]] w (Ret [.agg [.sl, .sl, .sl], .at .bool] fun (a' b' c' : Sl) (ok : Bool) w' => GbIs w (JbAsked A B) (bbOf (jnd A B)) a' b' c' ok w') := by
  refine C_i_JoinBounds ?_
  unfold V_i_JoinBounds
  refine NEW_intro fun pa w1 hp1 hs1 hE1 hb1 => NEW_intro fun pb w2 hp2 hs2 hE2 hb2 => NEW_intro fun p4 w3 hp4 hs4 hE3 hb4 => ?_
  have hE23 := hE2.trans hE3
  have hE03 := hE1.trans hE23
  have hz1 := hE1.size_le
  have hz2 := hE2.size_le
  have hba := hb1.ext hE23
  have hbb := hb2.ext hE3
  have h3 := h.ext hE03
  have h3' := h'.ext hE03
  refine LD_box3 hba ?_
  refine call (BoundOf_ok h3 hs) ?_
  rintro n ok w4 ⟨hA, hE4⟩
  refine LD_box3 (hbb.ext hE4) ?_
  refine call (BoundOf_ok (h3'.ext hE4) hs') ?_
  rintro n' ok' w5 ⟨hA', hE5⟩
  have hE35 := hE4.trans hE5
  have hE05 := hE03.trans hE35
  have hb45 := hb4.ext hE35
  have hba5 := hba.ext hE35
  have hbb5 := hbb.ext hE35
  have h5 := h3.ext hE35
  have h5' := h3'.ext hE35
  refine cond_not (fun hf w6 hE6 => gb_no (hE05.trans hE6) (hb45.ext hE6) (by omega) fun hc => ?_) (fun ht => ?_)
  · rw [hA.ok.2 ⟨hc.okA, hc.rightA⟩] at hf; cases hf
  refine cond_not (fun hf w6 hE6 => gb_no (hE05.trans hE6) (hb45.ext hE6) (by omega) fun hc => ?_) (fun ht' => ?_)
  · rw [hA'.ok.2 ⟨hc.okB, hc.rightB⟩] at hf; cases hf
  have hg := hA.ok.1 ht
  have hg' := hA'.ok.1 ht'
  have hl := hg.1.1
  have hl' := hg'.1.1
  have hla : A.ps.length - 1 < A.ps.length := by omega
  refine LD_bs0 hba5 (LD_bs0 hba5 ?_)
  have e1 : IntKind.i64.wrap ((a.len : Int) - 1) = ((A.ps.length - 1 : Nat) : Int) := by rw [h.ps.len, wrap_of (by omega) (by omega)]; omega
  rw [e1]
  refine slr_ixP h5.ps hla fun q1 z1 u1 hP1 hc1 => LD_pcells hc1 (LD_bs0 hbb5 ?_)
  refine slr_ixP (i := 0) h5'.ps (by omega) fun q2 z2 u2 hP2 hc2 => LD_pcells hc2 ?_
  refine QCALL_prop (fun w' hE => sameProblem_ok (hP1.ext hE) (hP2.ext hE)) fun bb hbq => ?_
  intro w8 hE8
  have hE08 := hE05.trans hE8
  have hb48 := hb45.ext hE8
  refine cond_not (fun hf => gb_no hE08 hb48 (by omega) fun hc => ?_) (fun htb => ?_)
  · have hsm := hc.same
    rw [pAt_get hla, pAt_get (by omega)] at hsm
    rw [hbq.2 hsm] at hf; cases hf
  have hsm := hbq.1 htb
  unfold V_i_JoinBounds_k1
  intro w13 hE13 _
  have hE513 := hE8.trans hE13
  have hE013 := hE05.trans hE513
  refine ⟨fun _ => False, not_false, LD_bs0 (hba5.ext hE513) ⟨Chg.refl _ _, LD_bs0 (hbb5.ext hE513) ⟨Chg.refl _ _, ?_⟩⟩⟩
  have h13 := h5.ext hE513
  have h13' := h5'.ext hE513
  refine slr_drop (i := 1) h13'.ps (by omega) rfl fun s1 hs1' => ⟨Chg.refl _ _, ?_⟩
  obtain ⟨rs, hrs, hrl, hrr⟩ := recs_of h13.ps
  obtain ⟨qs, hqs, hql, hqq⟩ := recs_of hs1'
  refine RUN_lits2 slt_probs a s1 fun y1 w14 hE14 hO14 => ⟨.of_ext hE14, ?_⟩
  have hrep : R w14 y1 [rs, qs] := OwnL.rows hO14 rfl (fun k h1 h2 => by
      match k, h1, h2 with
      | 0, _, _ => exact hrs.ext hE14
      | 1, _, _ => exact hqs.ext hE14) (fun _ _ => trivial)
  have hdl : (B.ps.drop 1).length = B.ps.length - 1 := List.length_drop
  refine call (concatP_ok (m := 1000) hrep (by simp) (by simp) (by intro r hr; simp at hr; rcases hr with rfl | rfl <;> omega)) ?_
  rintro y2 w15 ⟨hE15, hO15⟩
  have hE1315 := hE14.trans hE15
  refine ⟨.of_ext hE1315, ?_⟩
  have hO15' : OwnL w15 w14.heap.size T.t_i_Problem y2 (rs ++ qs) := by simpa using hO15
  have hR15 : R w15 y2 (jnd A B) := join_rep hE1315 hO15' hrl hrr hql hqq
  refine call (BuildBound_ok hR15 (jnd_small hs hs')) ?_
  intro a' b' c' ok2 w16 hB
  have hx : Ext w15 w16 := hB.1
  refine ⟨.of_ext (hE1315.trans hx), .of_ext (hE1315.trans hx), ?_⟩
  exact gb_fin (hE013.trans hE1315) (hb48.ext (hE13.trans hE1315)) (by omega) rfl hB ⟨fun hc => hc.join, fun hc => ⟨hg.1, hg.2, hg'.1, hg'.2, by rw [pAt_get hla, pAt_get (by omega)]; exact hsm, hc⟩⟩

theorem sJoinBounds_ok {w : World} {a b c x y z : Sl} {A B : Bnd} (h : RBnd w a b c A) (h' : RBnd w x y z B) (hs : SmallB A) (hs' : SmallB B) :
    Calls Tryz.prog F.s_JoinBounds #[.agg #[a.v, b.v, c.v], .agg #[x.v, y.v, z.v]] w (Ret [.agg [.sl, .sl, .sl], .at .bool] fun (a' b' c' : Sl) (ok : Bool) w' => GbIs w (JbAsked A B) (bbOf (jnd A B)) a' b' c' ok w') := by
  refine C_s_JoinBounds ?_
  unfold V_s_JoinBounds
  refine NEW_intro fun pa w1 hp1 hs1 hE1 hb1 => NEW_intro fun pb w2 hp2 hs2 hE2 hb2 => NEW_intro fun p4 w3 hp4 hs4 hE3 hb4 => ?_
  have hE23 := hE2.trans hE3
  have hE03 := hE1.trans hE23
  have hz1 := hE1.size_le
  have hz2 := hE2.size_le
  have hba := hb1.ext hE23
  have hbb := hb2.ext hE3
  have h3 := h.ext hE03
  have h3' := h'.ext hE03
  refine LD_box3 hba ?_
  refine QCALL_prop (fun w' hE => boGood_ok (h3.ext hE)) fun ok hA => ?_
  refine cond_not (fun hf w6 hE6 => gb_no (hE03.trans hE6) (hb4.ext hE6) (by omega) fun hc => ?_) (fun ht => LD_box3 hbb ?_)
  · rw [hA.2 ⟨hc.okA, hc.rightA⟩] at hf; cases hf
  refine QCALL_prop (fun w' hE => boGood_ok (h3'.ext hE)) fun ok' hA' => ?_
  refine cond_not (fun hf w6 hE6 => gb_no (hE03.trans hE6) (hb4.ext hE6) (by omega) fun hc => ?_) (fun ht' => ?_)
  · rw [hA'.2 ⟨hc.okB, hc.rightB⟩] at hf; cases hf
  have hg := hA.1 ht
  have hg' := hA'.1 ht'
  have hl := hg.1.1
  have hl' := hg'.1.1
  have hla : A.ps.length - 1 < A.ps.length := by omega
  refine LD_bs0 hba (LD_bs0 hba ?_)
  have e1 : IntKind.i64.wrap ((a.len : Int) - 1) = ((A.ps.length - 1 : Nat) : Int) := by rw [h.ps.len, wrap_of (by omega) (by omega)]; omega
  rw [e1]
  refine slr_ixP h3.ps hla fun q1 z1 u1 hP1 hc1 => LD_pcells hc1 (LD_bs0 hbb ?_)
  refine slr_ixP (i := 0) h3'.ps (by omega) fun q2 z2 u2 hP2 hc2 => LD_pcells hc2 ?_
  refine QCALL_prop (fun w' hE => prSame_ok (hP1.ext hE) (hP2.ext hE)) fun bb hbq => ?_
  intro w8 hE8
  have hE08 := hE03.trans hE8
  have hb48 := hb4.ext hE8
  refine cond_not (fun hf => gb_no hE08 hb48 (by omega) fun hc => ?_) (fun htb => ?_)
  · have hsm := hc.same
    rw [pAt_get hla, pAt_get (by omega)] at hsm
    rw [hbq.2 hsm] at hf; cases hf
  have hsm := hbq.1 htb
  unfold V_s_JoinBounds_k1
  intro w11 hE11 _
  have hE311 := hE8.trans hE11
  have hE011 := hE03.trans hE311
  have h11 := h3.ext hE311
  have h11' := h3'.ext hE311
  refine ⟨fun _ => False, not_false, LD_bs0 (hba.ext hE311) ⟨not_false, LD_bs0 (hbb.ext hE311) ?_⟩⟩
  refine slr_drop (i := 1) h11'.ps (by omega) rfl fun s1 hs1' => ?_
  obtain ⟨rs, hrs, hrl, hrr⟩ := recs_of h11.ps
  obtain ⟨qs, hqs, hql, hqq⟩ := recs_of hs1'
  have hdl : (B.ps.drop 1).length = B.ps.length - 1 := List.length_drop
  refine RUN_lit0 (α := PRec) slt_prob fun y0 w12 hE12 hO12 => ⟨.of_ext hE12, ?_⟩
  have hz12 := hE12.size_le
  refine RUN_append (α := PRec) slt_prob hO12 hz12 (hrs.ext hE12).any (by simp; omega) (by simp [maxLen]; omega) fun y1 w13 hO13 hs13 => ?_
  have hE13 : Ext w11 w13 := hs13.ext0 hE12 fun k hk => (hO12.blk k hk).1
  refine ⟨.of_ext hE13, ?_⟩
  rw [List.nil_append] at hO13
  refine RUN_append (α := PRec) slt_prob hO13 hE13.size_le (hqs.ext hE13).any (by omega) (by unfold maxLen; omega) fun y2 w14 hO14 hs14 => ?_
  have hE14 : Ext w11 w14 := hs14.ext0 hE13 fun k hk => (hO13.blk k hk).1
  refine ⟨.of_ext hE14, ?_⟩
  have hR14 : R w14 y2 (jnd A B) := join_rep hE14 hO14 hrl hrr hql hqq
  refine call (boTwo_ok hR14) ?_
  rintro t w15 ⟨hxt, hE15⟩
  have hE1115 := hE14.trans hE15
  have hE015 := hE011.trans hE1115
  have hb415 := hb48.ext (hE11.trans hE1115)
  refine cond_not (fun hf => gb_no hE015 hb415 (by omega) fun hc => ?_) (fun htt => ?_)
  · rw [hxt.2 hc.join.ok] at hf; cases hf
  refine call (boBuild_ok (hR14.ext hE15) (jnd_small hs hs') (hxt.1 htt)) ?_
  intro a' b' c' ok2 w16 hB
  exact gb_fin hE015 hb415 (by omega) rfl hB ⟨fun hc => hc.join, fun hc => ⟨hg.1, hg.2, hg'.1, hg'.2, by rw [pAt_get hla, pAt_get (by omega)]; exact hsm, hc⟩⟩

end Go.Proofs.YtndebacmnpghkaaGreat
end

section
/- The walk of the law FnExactCutBound. -/
namespace Go.Proofs.YtndebacmnpghkaaGreat
open Go.GX Go.RowKit
set_option maxRecDepth 100000
set_option maxHeartbeats 800000

theorem ans_pre {A : Prop} {G B : Bnd} {ok : Bool} (h : AnsG A G noB B ok) {N : Nat} (hG : preP G.ps G.ps.length ≤ N) : preP B.ps B.ps.length ≤ N := by
  rcases Classical.em A with hA | hA
  · rw [h.val hA]; exact hG
  · rw [h.non hA]; simp [noB, preP]

theorem fnExactCutBound_ok {w : World} {a b c : Sl} {B : Bnd} {d1 : Int} (h : RBnd w a b c B) (_ : I64 d1) :
    Calls Tryz.prog F.l_FnExactCutBound #[.agg #[a.v, b.v, c.v], .int .i64 d1] w (Ret [.at .bool] fun (x : Bool) w' => x = true ∧ Ext w w') := by
  refine C_l_FnExactCutBound ?_
  unfold V_l_FnExactCutBound
  refine NEW_intro fun p0 u0 hp0 hs0 hA0 hb0 => ?_
  have hE := hA0
  replace h := h.ext hA0
  refine LD_box3 hb0 ?_
  refine call (szBound_sum h 1048576 (by omega) (by omega)) ?_
  rintro z0 x0 ⟨hz0, hB0⟩
  replace hE := hE.ext hB0
  replace h := h.ext hB0
  replace hb0 := hb0.ext hB0
  refine cond_dec (fun _ => ⟨rfl, hE⟩) (fun hzl0 => ?_)
  obtain ⟨⟨hS, hT⟩, hzz⟩ := hz0 (by omega)
  refine LD_box3 hb0 ?_
  refine call (toBound_ok h hS) ?_
  rintro x y z w1 ⟨hE1, hR1⟩
  replace hE := hE.ext hE1
  replace h := h.ext hE1
  replace hb0 := hb0.ext hE1
  refine call (sCutBound_ok hR1 hS) ?_
  rintro xS yS zS okS wA ⟨hCA, B1, hP0, hA1⟩
  replace hE := hE.ext hCA
  replace h := h.ext hCA
  replace hb0 := hb0.ext hCA
  have hP1 := hP0.bnd
  refine NEW_ST (one3 _ _ _) rfl fun pS w6 hpS hES hcS => ?_
  replace hE := hE.ext hES
  replace h := h.ext hES
  replace hb0 := hb0.ext hES
  replace hP1 := hP1.ext hES
  have hX := Ext.refl w6
  have hpre : preP B.ps B.ps.length ≤ 16777216 := by unfold totB at hT; omega
  have hpre1 : preP B1.ps B1.ps.length ≤ 16777216 := ans_pre hA1 (by
    show preP (cbOf B d1) (cbOf B d1).length ≤ _
    exact Nat.le_trans (preP_take _ _) hpre)
  refine LD_box3 (hb0.ext hX) ?_
  refine call (toBound_out (h.ext hX) hS) ?_
  rintro xi yi zi wi ⟨hEi, hM⟩
  have hli := hEi.size_le
  have hti := Nat.le_refl wi.heap.size
  replace hX := hX.ext hEi
  have hH := Ext.refl wi
  refine NEW_ST (one3 _ _ _) rfl fun yi0 vi0 hqi hFi hc => ?_
  replace hX := hX.ext hFi
  replace hM := hM.ext hFi
  replace hH := hH.ext hFi
  refine LD_box3 hc ?_
  have hhi := hH.size_le
  refine call (CutBound_ok (k := d1) hM.bnd hS) ?_
  rintro xI yI zI okI wE ⟨hCE, B2, hG, hA2⟩
  have hzE := hCE.size_le
  have hte := Nat.le_refl wE.heap.size
  replace hX := hX.ext hCE
  replace hM := hM.ext hCE
  replace hc := hc.ext hCE
  obtain ⟨rfl, rfl⟩ := hA1.eq hA2
  have hHE := Ext.refl wE
  refine NEW_ST (one3 _ _ _) rfl fun pI w12 hpI hEI hcI => ?_
  replace hX := hX.ext hEI
  replace hM := hM.ext hEI
  replace hc := hc.ext hEI
  replace hG := hG.ext hEI
  replace hHE := hHE.ext hEI
  refine LD_box3 hcI (LD_box3 (hcS.ext hX) ?_)
  refine call (eqBound_ok hG.bnd (hP1.ext hX)) ?_
  rintro _ we1 ⟨rfl, hK⟩
  replace hX := hX.ext hK
  replace hM := hM.ext hK
  replace hc := hc.ext hK
  replace hG := hG.ext hK
  replace hcI := hcI.ext hK
  replace hHE := hHE.ext hK
  refine cond_f (by simp) ?_
  refine cond_f (by simp) ?_
  unfold V_l_FnExactCutBound_k2
  intro m0 hG0 _
  replace hX := hX.ext hG0
  replace hM := hM.ext hG0
  replace hc := hc.ext hG0
  replace hG := hG.ext hG0
  replace hcI := hcI.ext hG0
  replace hHE := hHE.ext hG0
  refine LD_box3 hc (LD_box3 (hb0.ext hX) ?_)
  refine ⟨Ext.refl _, call (toBound_ok (h.ext hX) hS) ?_⟩
  rintro xe ye ze we0' ⟨hHe0, hNe0⟩
  replace hX := hX.ext hHe0
  replace hM := hM.ext hHe0
  replace hc := hc.ext hHe0
  replace hG := hG.ext hHe0
  replace hcI := hcI.ext hHe0
  replace hHE := hHE.ext hHe0
  refine ⟨hHe0, call (eqBound_ok hM.bnd hNe0) ?_⟩
  rintro _ wf0 ⟨rfl, hK0⟩
  replace hX := hX.ext hK0
  replace hM := hM.ext hK0
  replace hc := hc.ext hK0
  replace hG := hG.ext hK0
  replace hcI := hcI.ext hK0
  replace hHE := hHE.ext hK0
  refine ⟨hHe0.trans hK0, cond_f (by simp) ?_⟩
  refine LD_box3 hc ?_
  have hzHE := hHE.size_le
  refine call (markB_out hM (by omega) hpre 1 (by omega) (by omega)) ?_
  rintro k0 wm0 ⟨hk0, _, hCh⟩
  have hzk0 := hCh.size
  replace hX := hCh.extR hX (by omega)
  replace hG := hG.chgR hCh (by omega)
  replace hcI := hcI.chg hCh (by omega)
  refine cond_df (by omega) ?_
  refine LD_box3 hcI (LD_box3 (hcS.ext hX) ?_)
  refine call (eqBound_ok hG.bnd (hP1.ext hX)) ?_
  rintro _ we2 ⟨rfl, hK⟩
  have hzK := hK.size_le
  replace hX := hX.ext hK
  replace hG := hG.ext hK
  replace hcI := hcI.ext hK
  refine cond_f (by simp) ?_
  refine cond_f (by simp) ?_
  unfold V_l_FnExactCutBound_k5
  refine LD_box3 hcI ?_
  refine call (markB_out hG (by omega) hpre1 1 (by omega) (by omega)) ?_
  rintro mk wg ⟨hmk, hMk, hSt⟩
  replace hX := hSt.extR hX (by omega)
  replace hcI := hcI.chg hSt (by omega)
  refine LD_box3 hcI ?_
  refine call (heldB_ok hMk) ?_
  rintro _ wh ⟨rfl, hK3⟩
  replace hX := hX.ext hK3
  replace hMk := hMk.ext hK3
  replace hcI := hcI.ext hK3
  refine cond_df (by omega) ?_
  refine cond_ne (fun hne => absurd hmk.symm hne) (fun _ => ?_)
  refine LD_box3 (hb0.ext hX) ?_
  refine call (toBound_ok (h.ext hX) hS) ?_
  rintro xj yj zj wj ⟨hEj, hNj⟩
  replace hX := hX.ext hEj
  replace hMk := hMk.ext hEj
  replace hcI := hcI.ext hEj
  refine call (CutBound_ok (k := d1) hNj hS) ?_
  rintro xL yL zL okL wL ⟨hCL, B3, hGL, hA3⟩
  replace hX := hX.ext hCL
  replace hMk := hMk.ext hCL
  replace hcI := hcI.ext hCL
  obtain ⟨rfl, rfl⟩ := hA1.eq hA3
  refine NEW_ST (one3 _ _ _) rfl fun pL w26 hpL hEL hcL => ?_
  replace hX := hX.ext hEL
  replace hMk := hMk.ext hEL
  replace hcI := hcI.ext hEL
  replace hGL := hGL.ext hEL
  refine LD_box3 hcL (LD_box3 (hcS.ext hX) ?_)
  refine call (eqBound_ok hGL.bnd (hP1.ext hX)) ?_
  rintro _ we3 ⟨rfl, hK4⟩
  replace hX := hX.ext hK4
  replace hMk := hMk.ext hK4
  replace hcI := hcI.ext hK4
  refine cond_f (by simp) ?_
  refine cond_f (by simp) ?_
  refine LD_box3 hcI ?_
  refine call (heldB_ok hMk) ?_
  rintro _ wz ⟨rfl, hK5⟩
  replace hX := hX.ext hK5
  refine cond_df (by omega) ?_
  refine cond_ne (fun hne => absurd hmk.symm hne) (fun _ => ?_)
  exact ⟨rfl, hE.trans hX⟩

end Go.Proofs.YtndebacmnpghkaaGreat
end

section
/- The walk of the law FnExactJoinBounds. -/
namespace Go.Proofs.YtndebacmnpghkaaGreat
open Go.GX Go.RowKit
set_option maxRecDepth 100000
set_option maxHeartbeats 800000

/-- An answer, stored in a cell that was made before the call. -/
theorem gb_store {w0 w w' : World} {P : Prop} {G : Bnd} {a b c : Sl} {ok : Bool} {px : Addr} {l : List Value} (h : GbIs w P G a b c ok w') (hb : Box w px T.t_i_Bound l) (hl : l.length = 3) (hE : Ext w0 w) (hp : w0.heap.size ≤ px.block) {K : World → Prop}
    (hk : ∀ w'' B, Ext w0 w'' → Box w'' px T.t_i_Bound [a.v, b.v, c.v] → RBnd w'' a b c B → AnsG P G noB B ok → K w'') : GX.ST px 0 [a.v, b.v, c.v] w' K := by
  obtain ⟨hE', B, hO, hA⟩ := h
  have hlt := hb.lt
  refine ST_all (hb.ext hE') (one3 _ _ _) (by simp [hl]) fun w'' hs hz hb'' => hk w'' B (hs.ext0 (hE.trans hE') fun k hk => by cases hk; omega) hb'' (hO.keep fun b h1 h2 h3 => hs.block b h3 (by intro he; cases he; omega)).bnd hA

theorem four_orders {w47 : World} {A B : Bnd} {P : Prop} {G : Bnd} {f : FuncId} {px2 px3 : Addr} {t0 t1 : TypeId} {a b c x y z : Sl} {K : Addr → Bool → World → Prop}
    (hb0 : Box w47 px2 t0 [a.v, b.v, c.v]) (hb1 : Box w47 px3 t1 [x.v, y.v, z.v]) (h : RBnd w47 a b c A) (h' : RBnd w47 x y z B) (hS : SmallB A) (hS' : SmallB B)
    (hcall : ∀ w' (a b c x y z : Sl), RBnd w' a b c A → RBnd w' x y z B → Calls Tryz.prog f #[.agg #[a.v, b.v, c.v], .agg #[x.v, y.v, z.v]] w' (Ret [.agg [.sl, .sl, .sl], .at .bool] fun (a' b' c' : Sl) (ok : Bool) w'' => GbIs w' P G a' b' c' ok w''))
    (fin : ∀ px ok w65 (xl yl zl : Sl) B3, Ext w47 w65 → Box w65 px T.t_i_Bound [xl.v, yl.v, zl.v] → RBnd w65 xl yl zl B3 → AnsG P G noB B3 ok → K px ok w65) :
  ∃ (D47 : Nat → Prop),
  ¬ D47 px2.block ∧ (
  LD [.sl, .sl, .sl] px2 w47 fun (x95_0 : Sl) (x95_1 : Sl) (x95_2 : Sl) =>
  ¬ D47 px3.block ∧ (
  LD [.sl, .sl, .sl] px3 w47 fun (x97_0 : Sl) (x97_1 : Sl) (x97_2 : Sl) =>
  (
  Calls Tryz.prog F.l_toBound #[.agg #[x95_0.v, x95_1.v, x95_2.v]] w47 (Ret [.agg [.sl, .sl, .sl]] fun (x96_0 : Sl) (x96_1 : Sl) (x96_2 : Sl) w48 =>
  Chg w47 w48 D47 ∧ (
  (
  Calls Tryz.prog F.l_toBound #[.agg #[x97_0.v, x97_1.v, x97_2.v]] w48 (Ret [.agg [.sl, .sl, .sl]] fun (x98_0 : Sl) (x98_1 : Sl) (x98_2 : Sl) w49 =>
  Chg w47 w49 D47 ∧ (
  (
  Calls Tryz.prog f #[.agg #[x96_0.v, x96_1.v, x96_2.v], .agg #[x98_0.v, x98_1.v, x98_2.v]] w49 (Ret [.agg [.sl, .sl, .sl], .at .bool] fun (x99_0_0 : Sl) (x99_0_1 : Sl) (x99_0_2 : Sl) (x99_1 : Bool) w50 =>
  Chg w47 w50 D47 ∧ (
  NEW T.t_i_Bound #[.slice none 0 0, .slice none 0 0, .slice none 0 0] w50 fun (px15 : Addr) w51 =>
  Chg w47 w51 D47 ∧ (
  ST px15 0 [x99_0_0.v, x99_0_1.v, x99_0_2.v] w51 fun w52 =>
  Chg w47 w52 D47 ∧ (
  Chg w47 w52 D47 ∧ (
  K px15 x99_1 w52)))))) ∧ (
  NEW T.t_i_Bound #[.slice none 0 0, .slice none 0 0, .slice none 0 0] w49 fun (px15_2 : Addr) w53 =>
  Chg w47 w53 D47 ∧ (
  Calls Tryz.prog f #[.agg #[x96_0.v, x96_1.v, x96_2.v], .agg #[x98_0.v, x98_1.v, x98_2.v]] w53 (Ret [.agg [.sl, .sl, .sl], .at .bool] fun (x99_0_0_2 : Sl) (x99_0_1_2 : Sl) (x99_0_2_2 : Sl) (x99_1_2 : Bool) w54 =>
  Chg w47 w54 D47 ∧ (
  Chg w47 w54 D47 ∧ (
  ST px15_2 0 [x99_0_0_2.v, x99_0_1_2.v, x99_0_2_2.v] w54 fun w55 =>
  Chg w47 w55 D47 ∧ (
  Chg w47 w55 D47 ∧ (
  K px15_2 x99_1_2 w55)))))))))) ∧ (
  NEW T.t_i_Bound #[.slice none 0 0, .slice none 0 0, .slice none 0 0] w48 fun (px15_3 : Addr) w56 =>
  Chg w47 w56 D47 ∧ (
  Calls Tryz.prog F.l_toBound #[.agg #[x97_0.v, x97_1.v, x97_2.v]] w56 (Ret [.agg [.sl, .sl, .sl]] fun (x98_0_2 : Sl) (x98_1_2 : Sl) (x98_2_2 : Sl) w57 =>
  Chg w47 w57 D47 ∧ (
  Calls Tryz.prog f #[.agg #[x96_0.v, x96_1.v, x96_2.v], .agg #[x98_0_2.v, x98_1_2.v, x98_2_2.v]] w57 (Ret [.agg [.sl, .sl, .sl], .at .bool] fun (x99_0_0_3 : Sl) (x99_0_1_3 : Sl) (x99_0_2_3 : Sl) (x99_1_3 : Bool) w58 =>
  Chg w47 w58 D47 ∧ (
  Chg w47 w58 D47 ∧ (
  ST px15_3 0 [x99_0_0_3.v, x99_0_1_3.v, x99_0_2_3.v] w58 fun w59 =>
  Chg w47 w59 D47 ∧ (
  Chg w47 w59 D47 ∧ (
  K px15_3 x99_1_3 w59)))))))))))) ∧ (
  NEW T.t_i_Bound #[.slice none 0 0, .slice none 0 0, .slice none 0 0] w47 fun (px15_4 : Addr) w60 =>
  Chg w47 w60 D47 ∧ (
  Calls Tryz.prog F.l_toBound #[.agg #[x95_0.v, x95_1.v, x95_2.v]] w60 (Ret [.agg [.sl, .sl, .sl]] fun (x96_0_2 : Sl) (x96_1_2 : Sl) (x96_2_2 : Sl) w61 =>
  Chg w47 w61 D47 ∧ (
  Calls Tryz.prog F.l_toBound #[.agg #[x97_0.v, x97_1.v, x97_2.v]] w61 (Ret [.agg [.sl, .sl, .sl]] fun (x98_0_3 : Sl) (x98_1_3 : Sl) (x98_2_3 : Sl) w62 =>
  Chg w47 w62 D47 ∧ (
  Calls Tryz.prog f #[.agg #[x96_0_2.v, x96_1_2.v, x96_2_2.v], .agg #[x98_0_3.v, x98_1_3.v, x98_2_3.v]] w62 (Ret [.agg [.sl, .sl, .sl], .at .bool] fun (x99_0_0_4 : Sl) (x99_0_1_4 : Sl) (x99_0_2_4 : Sl) (x99_1_4 : Bool) w63 =>
  Chg w47 w63 D47 ∧ (
  Chg w47 w63 D47 ∧ (
  ST px15_4 0 [x99_0_0_4.v, x99_0_1_4.v, x99_0_2_4.v] w63 fun w64 =>
  Chg w47 w64 D47 ∧ (
  Chg w47 w64 D47 ∧ (
  K px15_4 x99_1_4 w64))))))))))))) := by
  have nl : ([.slice none 0 0, .slice none 0 0, .slice none 0 0] : List Value).length = 3 := rfl
  refine ⟨fun _ => False, not_false, LD_box3 hb0 ⟨not_false, LD_box3 hb1 ⟨?_, ?_⟩⟩⟩
  · refine call (toBound_ok h hS) ?_
    rintro x1 x2 x3 w1 ⟨hE1, hR1⟩
    refine ⟨.of_ext hE1, ?_, ?_⟩
    · refine call (toBound_ok (h'.ext hE1) hS') ?_
      rintro y1 y2 y3 w2 ⟨hE2, hR2⟩
      have hE02 := hE1.trans hE2
      refine ⟨.of_ext hE02, ?_, ?_⟩
      · refine call (hcall _ _ _ _ _ _ _ (hR1.ext hE2) hR2) ?_
        intro a' b' c' ok w3 hg
        have hE03 := hE02.trans hg.1
        refine ⟨.of_ext hE03, NEW_intro fun px w4 hp hs hE4 hbx => ⟨.of_ext (hE03.trans hE4), ?_⟩⟩
        obtain ⟨hE3, B3, hO, hA⟩ := hg
        have hE04 := hE03.trans hE4
        have hz3 := hE03.size_le
        refine ST_all hbx (one3 _ _ _) rfl fun w5 hs5 hz5 hb5 => ?_
        have hE05 : Ext w47 w5 := hs5.ext0 hE04 fun k hk => by cases hk; omega
        exact ⟨.of_ext hE05, .of_ext hE05, fin _ _ _ _ _ _ B3 hE05 hb5 ((hO.ext hE4).keep fun b h1 h2 h3 => hs5.block b h3 (by intro he; cases he; omega)).bnd hA⟩
      · refine NEW_intro fun px w3 hp hs hE3 hbx => ?_
        have hE03 := hE02.trans hE3
        have hz2 := hE02.size_le
        refine ⟨.of_ext hE03, call (hcall _ _ _ _ _ _ _ ((hR1.ext hE2).ext hE3) (hR2.ext hE3)) ?_⟩
        intro a' b' c' ok w4 hg
        refine ⟨.of_ext (hE03.trans hg.1), .of_ext (hE03.trans hg.1), gb_store hg hbx nl hE03 (by omega) fun w5 B3 hE5 hb5 hR5 hA5 => ⟨.of_ext hE5, .of_ext hE5, fin _ _ _ _ _ _ B3 hE5 hb5 hR5 hA5⟩⟩
    · refine NEW_intro fun px w2 hp hs hE2 hbx => ?_
      have hE02 := hE1.trans hE2
      have hz1 := hE1.size_le
      refine ⟨.of_ext hE02, call (toBound_ok (h'.ext hE02) hS') ?_⟩
      rintro y1 y2 y3 w3 ⟨hE3, hR3⟩
      have hE03 := hE02.trans hE3
      refine ⟨.of_ext hE03, call (hcall _ _ _ _ _ _ _ ((hR1.ext hE2).ext hE3) hR3) ?_⟩
      intro a' b' c' ok w4 hg
      refine ⟨.of_ext (hE03.trans hg.1), .of_ext (hE03.trans hg.1), gb_store hg (hbx.ext hE3) nl hE03 (by omega) fun w5 B3 hE5 hb5 hR5 hA5 => ⟨.of_ext hE5, .of_ext hE5, fin _ _ _ _ _ _ B3 hE5 hb5 hR5 hA5⟩⟩
  · refine NEW_intro fun px w1 hp hs hE1 hbx => ⟨.of_ext hE1, ?_⟩
    refine call (toBound_ok (h.ext hE1) hS) ?_
    rintro x1 x2 x3 w2 ⟨hE2, hR2⟩
    have hE02 := hE1.trans hE2
    refine ⟨.of_ext hE02, call (toBound_ok (h'.ext hE02) hS') ?_⟩
    rintro y1 y2 y3 w3 ⟨hE3, hR3⟩
    have hE03 := hE02.trans hE3
    refine ⟨.of_ext hE03, call (hcall _ _ _ _ _ _ _ (hR2.ext hE3) hR3) ?_⟩
    intro a' b' c' ok w4 hg
    refine ⟨.of_ext (hE03.trans hg.1), .of_ext (hE03.trans hg.1), gb_store hg (hbx.ext (hE2.trans hE3)) nl hE03 (by omega) fun w5 B3 hE5 hb5 hR5 hA5 => ⟨.of_ext hE5, .of_ext hE5, fin _ _ _ _ _ _ B3 hE5 hb5 hR5 hA5⟩⟩

theorem join_k12 {v w0 w : World} {B1 : Bnd} {px6 px10 px15 : Addr} {ok ok3 : Bool} {xs ys zs xi yi zi xl yl zl : Sl} {r : Int} (hv : Ext v w0) (hX : Ext w0 w)
    (hc6 : Box w px6 T.t_i_Bound [xs.v, ys.v, zs.v]) (h6 : RBnd w xs ys zs B1) (hc10 : Box w px10 T.t_i_Bound [xi.v, yi.v, zi.v]) (h10 : MarkedB w xi yi zi B1 1) (hr : r = 1 + totB B1)
    (hc15 : Box w px15 T.t_i_Bound [xl.v, yl.v, zl.v]) (h15 : RBnd w xl yl zl B1) (he : ok3 = ok) : V_l_FnExactJoinBounds_k12 (fun (x : Bool) w' => x = true ∧ Ext v w') px6 ok px10 r px15 ok3 w := by
  subst he
  unfold V_l_FnExactJoinBounds_k12
  refine LD_box3 hc15 (LD_box3 hc6 ?_)
  refine call (eqBound_ok h15 h6) ?_
  rintro _ we3 ⟨rfl, hK4⟩
  replace hX := hX.ext hK4
  replace hc10 := hc10.ext hK4
  replace h10 := h10.ext hK4
  refine cond_f (by simp) ?_
  refine cond_f (by simp) ?_
  refine LD_box3 hc10 ?_
  refine call (heldB_ok h10) ?_
  rintro _ wz ⟨rfl, hK5⟩
  replace hX := hX.ext hK5
  refine cond_df (by omega) ?_
  refine cond_ne (fun hne => absurd hr.symm hne) (fun _ => ?_)
  exact ⟨rfl, hv.trans hX⟩

theorem join_k8 {v w0 w : World} {a b c x y z : Sl} {A B B1 : Bnd} {p0 p1 px6 px10 : Addr} {t0 t1 : TypeId} {ok : Bool} {xs ys zs xi yi zi : Sl} {base top : Nat} (hv : Ext v w0) (hX : Ext w0 w) (h : RBnd w0 a b c A) (h' : RBnd w0 x y z B) (hS : SmallB A) (hS' : SmallB B)
    (hb0 : Box w0 p0 t0 [a.v, b.v, c.v]) (hb1 : Box w0 p1 t1 [x.v, y.v, z.v])
    (hc6 : Box w0 px6 T.t_i_Bound [xs.v, ys.v, zs.v]) (h6 : RBnd w0 xs ys zs B1) (hA1 : AnsG (JbAsked A B) (bbOf (jnd A B)) noB B1 ok)
    (hc10 : Box w px10 T.t_i_Bound [xi.v, yi.v, zi.v]) (hG : OutB base top w xi yi zi B1) (ht : top ≤ w.heap.size) (hbase : w0.heap.size ≤ base) (h10 : top ≤ px10.block) (hpre : preP B1.ps B1.ps.length ≤ 16777216) :
    V_l_FnExactJoinBounds_k8 (fun (x : Bool) w' => x = true ∧ Ext v w') p0 p1 px6 ok px10 w := by
  unfold V_l_FnExactJoinBounds_k8
  refine LD_box3 hc10 ?_
  refine call (markB_out hG ht hpre 1 (by omega) (by omega)) ?_
  rintro mk wg ⟨hmk, hMk, hSt⟩
  replace hX := hSt.extR hX hbase
  replace hc10 := hc10.chg hSt (by omega)
  refine LD_box3 hc10 ?_
  refine call (heldB_ok hMk) ?_
  rintro _ wh ⟨rfl, hK3⟩
  replace hX := hX.ext hK3
  replace hMk := hMk.ext hK3
  replace hc10 := hc10.ext hK3
  refine cond_df (by omega) ?_
  refine cond_ne (fun hne => absurd hmk.symm hne) (fun _ => ?_)
  intro w47 hE47 _
  replace hX := hX.ext hE47
  replace hMk := hMk.ext hE47
  replace hc10 := hc10.ext hE47
  have hf := hb0.ext hX
  have hf1 := hb1.ext hX
  refine four_orders hf hf1 (h.ext hX) (h'.ext hX) hS hS' (fun w' _ _ _ _ _ _ k1 k2 => JoinBounds_ok k1 k2 hS hS') fun px15 ok3 w65 xl yl zl B3 hE65 hb65 hR65 hA65 => ?_
  obtain ⟨rfl, rfl⟩ := hA1.eq hA65
  have hX65 := hX.trans hE65
  exact join_k12 hv hX65 (hc6.ext hX65) (h6.ext hX65) (hc10.ext hE65) (hMk.ext hE65) hmk hb65 hR65 rfl

theorem fnExactJoinBounds_ok {w : World} {a b c x y z : Sl} {A B : Bnd} (h : RBnd w a b c A) (h' : RBnd w x y z B) :
    Calls Tryz.prog F.l_FnExactJoinBounds #[.agg #[a.v, b.v, c.v], .agg #[x.v, y.v, z.v]] w (Ret [.at .bool] fun (x : Bool) w' => x = true ∧ Ext w w') := by
  refine C_l_FnExactJoinBounds ?_
  unfold V_l_FnExactJoinBounds
  refine NEW_intro fun p0 u0 hp0 hs0 hA0 hb0 => ?_
  have hE := hA0
  replace h := h.ext hA0
  replace h' := h'.ext hA0
  refine NEW_intro fun p1 u1 hp1 hs1 hA1 hb1 => ?_
  replace hE := hE.ext hA1
  replace h := h.ext hA1
  replace h' := h'.ext hA1
  replace hb0 := hb0.ext hA1
  refine LD_box3 hb0 ?_
  refine call (szBound_sum h 1048576 (by omega) (by omega)) ?_
  rintro z0 x0 ⟨hz0, hB0⟩
  replace hE := hE.ext hB0
  replace h := h.ext hB0
  replace h' := h'.ext hB0
  replace hb0 := hb0.ext hB0
  replace hb1 := hb1.ext hB0
  refine cond_dec (fun _ => ⟨rfl, hE⟩) (fun hzl0 => ?_)
  obtain ⟨⟨hS, hT⟩, hzz⟩ := hz0 (by omega)
  refine LD_box3 hb1 ?_
  refine call (szBound_sum h' z0 (by omega) (by omega)) ?_
  rintro z1 x1 ⟨hz1, hB1⟩
  replace hE := hE.ext hB1
  replace h := h.ext hB1
  replace h' := h'.ext hB1
  replace hb0 := hb0.ext hB1
  replace hb1 := hb1.ext hB1
  refine cond_dec (fun _ => ⟨rfl, hE⟩) (fun hzl1 => ?_)
  obtain ⟨⟨hS', hT'⟩, hzz'⟩ := hz1 (by omega)
  intro w5 hE5 _
  replace hE := hE.ext hE5
  replace h := h.ext hE5
  replace h' := h'.ext hE5
  replace hb0 := hb0.ext hE5
  replace hb1 := hb1.ext hE5
  refine four_orders hb0 hb1 h h' hS hS' (fun w' _ _ _ _ _ _ k1 k2 => sJoinBounds_ok k1 k2 hS hS') fun px6 ok w6 xs ys zs B1 hE6 hc6 h6 hAns => ?_
  replace hE := hE.ext hE6
  replace h := h.ext hE6
  replace h' := h'.ext hE6
  replace hb0 := hb0.ext hE6
  replace hb1 := hb1.ext hE6
  have hpreA : preP A.ps A.ps.length ≤ 3145728 := by unfold totB at hT; omega
  have hpreB : preP B.ps B.ps.length ≤ 3145728 := by unfold totB at hT'; omega
  have hpre1 : preP B1.ps B1.ps.length ≤ 16777216 := ans_pre hAns (by
    show preP (jnd A B) (jnd A B).length ≤ _
    unfold jnd
    have h1 := preP_app A.ps (B.ps.drop 1)
    have h2 := preP_drop B.ps 1
    omega)
  have hX := Ext.refl w6
  unfold V_l_FnExactJoinBounds_k3
  refine LD_box3 hb0 ?_
  refine call (toBound_out h hS) ?_
  rintro xa ya za wa ⟨hEa, hM0⟩
  have hla := hEa.size_le
  have hHa := Ext.refl wa
  replace hX := hX.ext hEa
  refine NEW_ST (one3 _ _ _) rfl fun pa wa2 hpa hEa2 hca => ?_
  replace hX := hX.ext hEa2
  replace hM0 := hM0.ext hEa2
  replace hHa := hHa.ext hEa2
  refine LD_box3 (hb1.ext hX) ?_
  have hla2 := hHa.size_le
  refine call (toBound_out (h'.ext hX) hS') ?_
  rintro xb yb zb wb ⟨hEb, hM1⟩
  have hlb := hEb.size_le
  have hHb := Ext.refl wb
  replace hX := hX.ext hEb
  replace hM0 := hM0.ext hEb
  replace hca := hca.ext hEb
  refine NEW_ST (one3 _ _ _) rfl fun pb wb2 hpb hEb2 hcb => ?_
  replace hX := hX.ext hEb2
  replace hM0 := hM0.ext hEb2
  replace hca := hca.ext hEb2
  replace hM1 := hM1.ext hEb2
  replace hHb := hHb.ext hEb2
  refine LD_box3 hca (LD_box3 hcb ?_)
  have hlb2 := hHb.size_le
  refine call (JoinBounds_ok hM0.bnd hM1.bnd hS hS') ?_
  rintro xi yi zi oki wE ⟨hCE, B2, hG, hA2⟩
  have hlE := hCE.size_le
  replace hX := hX.ext hCE
  replace hM0 := hM0.ext hCE
  replace hca := hca.ext hCE
  replace hM1 := hM1.ext hCE
  replace hcb := hcb.ext hCE
  obtain ⟨rfl, rfl⟩ := hAns.eq hA2
  have hHE := Ext.refl wE
  refine NEW_ST (one3 _ _ _) rfl fun pI w12 hpI hEI hcI => ?_
  replace hX := hX.ext hEI
  replace hM0 := hM0.ext hEI
  replace hca := hca.ext hEI
  replace hM1 := hM1.ext hEI
  replace hcb := hcb.ext hEI
  replace hG := hG.ext hEI
  replace hHE := hHE.ext hEI
  refine LD_box3 hcI (LD_box3 (hc6.ext hX) ?_)
  refine call (eqBound_ok hG.bnd (h6.ext hX)) ?_
  rintro _ we1 ⟨rfl, hK⟩
  replace hX := hX.ext hK
  replace hM0 := hM0.ext hK
  replace hca := hca.ext hK
  replace hM1 := hM1.ext hK
  replace hcb := hcb.ext hK
  replace hG := hG.ext hK
  replace hHE := hHE.ext hK
  replace hcI := hcI.ext hK
  refine cond_f (by simp) ?_
  refine cond_f (by simp) ?_
  unfold V_l_FnExactJoinBounds_k4
  intro m0 hG0 _
  replace hX := hX.ext hG0
  replace hM0 := hM0.ext hG0
  replace hca := hca.ext hG0
  replace hM1 := hM1.ext hG0
  replace hcb := hcb.ext hG0
  replace hG := hG.ext hG0
  replace hHE := hHE.ext hG0
  replace hcI := hcI.ext hG0
  refine LD_box3 hca (LD_box3 (hb0.ext hX) ?_)
  refine ⟨Ext.refl _, call (toBound_ok (h.ext hX) hS) ?_⟩
  rintro xe ye ze we0' ⟨hHe0, hNe0⟩
  replace hX := hX.ext hHe0
  replace hM0 := hM0.ext hHe0
  replace hca := hca.ext hHe0
  replace hM1 := hM1.ext hHe0
  replace hcb := hcb.ext hHe0
  replace hG := hG.ext hHe0
  replace hHE := hHE.ext hHe0
  replace hcI := hcI.ext hHe0
  refine ⟨hHe0, call (eqBound_ok hM0.bnd hNe0) ?_⟩
  rintro _ wf0 ⟨rfl, hK0⟩
  replace hX := hX.ext hK0
  replace hM0 := hM0.ext hK0
  replace hca := hca.ext hK0
  replace hM1 := hM1.ext hK0
  replace hcb := hcb.ext hK0
  replace hG := hG.ext hK0
  replace hHE := hHE.ext hK0
  replace hcI := hcI.ext hK0
  refine ⟨hHe0.trans hK0, cond_f (by simp) ?_⟩
  intro m1 hG1 _
  replace hX := hX.ext hG1
  replace hM0 := hM0.ext hG1
  replace hca := hca.ext hG1
  replace hM1 := hM1.ext hG1
  replace hcb := hcb.ext hG1
  replace hG := hG.ext hG1
  replace hHE := hHE.ext hG1
  replace hcI := hcI.ext hG1
  refine LD_box3 hcb (LD_box3 (hb1.ext hX) ?_)
  refine ⟨Ext.refl _, call (toBound_ok (h'.ext hX) hS') ?_⟩
  rintro xe1 ye1 ze1 we1' ⟨hHe1, hNe1⟩
  replace hX := hX.ext hHe1
  replace hM0 := hM0.ext hHe1
  replace hca := hca.ext hHe1
  replace hM1 := hM1.ext hHe1
  replace hcb := hcb.ext hHe1
  replace hG := hG.ext hHe1
  replace hHE := hHE.ext hHe1
  replace hcI := hcI.ext hHe1
  refine ⟨hHe1, call (eqBound_ok hM1.bnd hNe1) ?_⟩
  rintro _ wf1 ⟨rfl, hK1⟩
  replace hX := hX.ext hK1
  replace hM0 := hM0.ext hK1
  replace hca := hca.ext hK1
  replace hM1 := hM1.ext hK1
  replace hcb := hcb.ext hK1
  replace hG := hG.ext hK1
  replace hHE := hHE.ext hK1
  replace hcI := hcI.ext hK1
  refine ⟨hHe1.trans hK1, cond_f (by simp) ?_⟩
  refine LD_box3 hca ?_
  have hzHE := hHE.size_le
  have htA : totB A ≤ 3145728 := hT
  have htB : totB B ≤ 3145728 := hT'
  refine call (markB_out hM0 (by omega) (by omega) 1 (by omega) (by omega)) ?_
  rintro k0 wm0 ⟨rfl, _, hCh⟩
  have hzk0 := hCh.size
  replace hX := hCh.extR hX (by omega)
  replace hG := hG.chgR hCh (by omega)
  replace hcI := hcI.chg hCh (by omega)
  replace hcb := hcb.chg hCh (by omega)
  replace hM1 := hM1.chgR hCh (by omega)
  refine LD_box3 hcb ?_
  refine call (markB_out hM1 (by omega) (by omega) (1 + (totB A : Int)) (by omega) (by omega)) ?_
  rintro k1 wm1 ⟨rfl, _, hCh1⟩
  have hzk1 := hCh1.size
  replace hX := hCh1.extR hX (by omega)
  replace hG := hG.chgR hCh1 (by omega)
  replace hcI := hcI.chg hCh1 (by omega)
  refine cond_df (by omega) ?_
  refine LD_box3 hcI (LD_box3 (hc6.ext hX) ?_)
  refine call (eqBound_ok hG.bnd (h6.ext hX)) ?_
  rintro _ we2 ⟨rfl, hK⟩
  have hzK := hK.size_le
  replace hX := hX.ext hK
  replace hG := hG.ext hK
  replace hcI := hcI.ext hK
  refine cond_f (by simp) ?_
  refine cond_f (by simp) ?_
  exact join_k8 hE hX h h' hS hS' hb0 hb1 hc6 h6 hAns hcI hG (by omega) (by omega) (by omega) hpre1

end Go.Proofs.YtndebacmnpghkaaGreat
end

section
/- Facts of this seat's program that every claim's last step asks for, each computed once (together they need more memory than a text may use). -/
namespace Go.Proofs.YtndebacmnpghkaaGreat


theorem door_enters : Tryz.pinned.checked.prog.mayEnter = true := by kernel_rfl

theorem door_lifts : Tryz.pinned.checked.prog.liftsFinal = false := by kernel_rfl

theorem door_heard : Tryz.pinned.checked.prog.stopsHeard = true := by kernel_rfl

theorem door_laid : laidOutB Tryz.pinned.checked.prog = true := by kernel_rfl

theorem door_maps : mapsRowed Tryz.pinned.checked.prog = true := by kernel_rfl

end Go.Proofs.YtndebacmnpghkaaGreat
end
