/- The walk of the law FnExactIsSolution. -/
import Derived.Test.YtjfodknpphhajaaSolution
import Derived.Test.YtjfodknpphhajaaMat
namespace Go.Proofs.Ytjfodknpphhajaa
open Go.GX Go.RowKit
set_option maxRecDepth 100000

theorem fnExactIsSolution_ok {w : World} {c0 e0 : Sl} {q0 : Prob} {a1 b1 c1 : Sl} {n1 : Net} {s2 : Sl} {l2 : List (List Int)} (h0 : RProb w c0 e0 q0) (h1 : RNet w a1 b1 c1 n1) (h2 : R w s2 l2) :
    Calls Try.prog F.l_FnExactIsSolution #[.agg #[.int .i64 q0.labels, .int .i64 q0.degree, c0.v, e0.v], .agg #[a1.v, b1.v, c1.v], s2.v] w (Ret [.at .bool] fun (x : Bool) w' => x = true ∧ Ext w w') := by
  refine C_l_FnExactIsSolution ?_
  unfold V_l_FnExactIsSolution
  refine NEW_intro fun p0 u0 hp0 hs0 hA0 hb0 => ?_
  have hE := hA0
  replace h0 := h0.ext hA0
  replace h1 := h1.ext hA0
  replace h2 := h2.ext hA0
  refine NEW_intro fun p1 u1 hp1 hs1 hA1 hb1 => ?_
  replace hE := hE.ext hA1
  replace h0 := h0.ext hA1
  replace h1 := h1.ext hA1
  replace h2 := h2.ext hA1
  replace hb0 := hb0.ext hA1
  refine LD_iiss hb0 ?_
  refine call (szProblem_ok h0 1048576 (by omega) (by omega)) ?_
  rintro z0 x0 ⟨hz0, hB0⟩
  replace hE := hE.ext hB0
  replace h0 := h0.ext hB0
  replace h1 := h1.ext hB0
  replace h2 := h2.ext hB0
  replace hb0 := hb0.ext hB0
  replace hb1 := hb1.ext hB0
  refine cond_dec (fun _ => ⟨rfl, hE⟩) (fun hzl0 => ?_)
  have hS0 := (hz0 (by omega)).1
  have hzz0 := (hz0 (by omega)).2
  refine LD_box3 hb1 ?_
  refine call (szNetwork_at h1 z0 (by omega) (by omega)) ?_
  rintro z1 x1 ⟨hz1, hB1⟩
  replace hE := hE.ext hB1
  replace h0 := h0.ext hB1
  replace h1 := h1.ext hB1
  replace h2 := h2.ext hB1
  replace hb0 := hb0.ext hB1
  replace hb1 := hb1.ext hB1
  refine cond_dec (fun _ => ⟨rfl, hE⟩) (fun hzl1 => ?_)
  have hS1 := (hz1 (by omega)).1
  have hzz1 := (hz1 (by omega)).2
  refine call (szIntSS_ok h2 z1 (by omega) (by omega)) ?_
  rintro z2 _ ⟨hz2, rfl⟩
  refine cond_dec (fun _ => ⟨rfl, hE⟩) (fun hzl2 => ?_)
  obtain ⟨hzz2, hza2, hzb2⟩ := hz2 (by omega)
  have hS2 : SmallM l2 := ⟨by omega, fun r hr => by have := hzb2 r hr; omega⟩
  intro wS hGS _
  replace hE := hE.ext hGS
  replace h0 := h0.ext hGS
  replace h1 := h1.ext hGS
  replace h2 := h2.ext hGS
  replace hb0 := hb0.ext hGS
  replace hb1 := hb1.ext hGS
  have hReg := Ext.refl wS
  refine LD_iiss hb0 (LD_box3 hb1 ?_)
  refine call (toProblem_ok h0 hS0) ?_
  rintro _ _ zs0 us0 ws0 ⟨rfl, rfl, hEs0, hNs0⟩
  replace hE := hE.ext hEs0
  replace h0 := h0.ext hEs0
  replace h1 := h1.ext hEs0
  replace h2 := h2.ext hEs0
  replace hb0 := hb0.ext hEs0
  replace hb1 := hb1.ext hEs0
  replace hReg := hReg.ext hEs0
  refine ⟨hReg, ?_⟩
  refine call (toNetwork_ok h1 hS1) ?_
  rintro xs1 ys1 zs1 ws1 ⟨hEs1, hNs1⟩
  replace hE := hE.ext hEs1
  replace h0 := h0.ext hEs1
  replace h1 := h1.ext hEs1
  replace h2 := h2.ext hEs1
  replace hb0 := hb0.ext hEs1
  replace hb1 := hb1.ext hEs1
  replace hReg := hReg.ext hEs1
  replace hNs0 := hNs0.ext hEs1
  refine ⟨hReg, ?_⟩
  refine call (toIntSS_own h2 hS2.1 hS2.2) ?_
  rintro ss2 ws2 ⟨hEs2, hOs2⟩
  replace hE := hE.ext hEs2
  replace h0 := h0.ext hEs2
  replace h1 := h1.ext hEs2
  replace h2 := h2.ext hEs2
  replace hb0 := hb0.ext hEs2
  replace hb1 := hb1.ext hEs2
  replace hReg := hReg.ext hEs2
  replace hNs0 := hNs0.ext hEs2
  replace hNs1 := hNs1.ext hEs2
  have hRs2 := hOs2.rep (flat_okII h2)
  refine ⟨hReg, ?_⟩
  refine call (sIsSolution_ok hNs0 hNs1 hRs2) ?_
  rintro r10 r11 wA ⟨hA1, hC1⟩
  replace hE := hE.ext hC1
  replace h0 := h0.ext hC1
  replace h1 := h1.ext hC1
  replace h2 := h2.ext hC1
  replace hb0 := hb0.ext hC1
  replace hb1 := hb1.ext hC1
  replace hReg := hReg.ext hC1
  replace hNs0 := hNs0.ext hC1
  replace hNs1 := hNs1.ext hC1
  replace hRs2 := hRs2.ext hC1
  refine ⟨hReg, ?_⟩
  refine ⟨hReg, ?_⟩
  refine ⟨hReg, ?_⟩
  refine LD_iiss hb0 ?_
  refine call (toProblem_ok h0 hS0) ?_
  rintro _ _ zi0 ui0 wi0 ⟨rfl, rfl, hEi0, hNi0⟩
  replace hE := hE.ext hEi0
  replace h0 := h0.ext hEi0
  replace h1 := h1.ext hEi0
  replace h2 := h2.ext hEi0
  replace hb0 := hb0.ext hEi0
  replace hb1 := hb1.ext hEi0
  replace hNs0 := hNs0.ext hEi0
  replace hNs1 := hNs1.ext hEi0
  replace hRs2 := hRs2.ext hEi0
  refine NEW_ST (one4p _ _ _ _) rfl fun yi0 vi0 hqi0 hFi0 hc0 => ?_
  replace hE := hE.ext hFi0
  replace h0 := h0.ext hFi0
  replace h1 := h1.ext hFi0
  replace h2 := h2.ext hFi0
  replace hb0 := hb0.ext hFi0
  replace hb1 := hb1.ext hFi0
  replace hNs0 := hNs0.ext hFi0
  replace hNs1 := hNs1.ext hFi0
  replace hRs2 := hRs2.ext hFi0
  replace hNi0 := hNi0.ext hFi0
  refine LD_box3 hb1 ?_
  refine call (toNetwork_ok h1 hS1) ?_
  rintro xi1 yi1 zi1 wi1 ⟨hEi1, hNi1⟩
  replace hE := hE.ext hEi1
  replace h0 := h0.ext hEi1
  replace h1 := h1.ext hEi1
  replace h2 := h2.ext hEi1
  replace hb0 := hb0.ext hEi1
  replace hb1 := hb1.ext hEi1
  replace hNs0 := hNs0.ext hEi1
  replace hNs1 := hNs1.ext hEi1
  replace hRs2 := hRs2.ext hEi1
  replace hNi0 := hNi0.ext hEi1
  replace hc0 := hc0.ext hEi1
  refine NEW_ST (one3 _ _ _) rfl fun qi1 vi1 hqi1 hFi1 hc1 => ?_
  replace hE := hE.ext hFi1
  replace h0 := h0.ext hFi1
  replace h1 := h1.ext hFi1
  replace h2 := h2.ext hFi1
  replace hb0 := hb0.ext hFi1
  replace hb1 := hb1.ext hFi1
  replace hNs0 := hNs0.ext hFi1
  replace hNs1 := hNs1.ext hFi1
  replace hRs2 := hRs2.ext hFi1
  replace hNi0 := hNi0.ext hFi1
  replace hc0 := hc0.ext hFi1
  replace hNi1 := hNi1.ext hFi1
  refine call (toIntSS_own h2 hS2.1 hS2.2) ?_
  rintro si2 wi2 ⟨hEi2, hOi2⟩
  replace hE := hE.ext hEi2
  replace h0 := h0.ext hEi2
  replace h1 := h1.ext hEi2
  replace h2 := h2.ext hEi2
  replace hb0 := hb0.ext hEi2
  replace hb1 := hb1.ext hEi2
  replace hNs0 := hNs0.ext hEi2
  replace hNs1 := hNs1.ext hEi2
  replace hRs2 := hRs2.ext hEi2
  replace hNi0 := hNi0.ext hEi2
  replace hc0 := hc0.ext hEi2
  replace hNi1 := hNi1.ext hEi2
  replace hc1 := hc1.ext hEi2
  have hRi2 := hOi2.rep (flat_okII h2)
  refine LD_iiss hc0 ?_
  refine LD_box3 hc1 ?_
  refine call (IsSolution_ok hNi0 hNi1 hRi2 hS0 hS1 hS2) ?_
  rintro r20 r21 wE ⟨hA2, hC2⟩
  replace hE := hE.ext hC2
  replace h0 := h0.ext hC2
  replace h1 := h1.ext hC2
  replace h2 := h2.ext hC2
  replace hb0 := hb0.ext hC2
  replace hb1 := hb1.ext hC2
  replace hNs0 := hNs0.ext hC2
  replace hNs1 := hNs1.ext hC2
  replace hRs2 := hRs2.ext hC2
  replace hNi0 := hNi0.ext hC2
  replace hc0 := hc0.ext hC2
  replace hNi1 := hNi1.ext hC2
  replace hc1 := hc1.ext hC2
  replace hRi2 := hRi2.ext hC2
  obtain ⟨rfl, rfl⟩ := hA1.eq hA2
  refine cond_f (by simp) ?_
  refine cond_f (by simp) ?_
  unfold V_l_FnExactIsSolution_k4
  intro m0 hG0 _
  replace hE := hE.ext hG0
  replace h0 := h0.ext hG0
  replace h1 := h1.ext hG0
  replace h2 := h2.ext hG0
  replace hb0 := hb0.ext hG0
  replace hb1 := hb1.ext hG0
  replace hNs0 := hNs0.ext hG0
  replace hNs1 := hNs1.ext hG0
  replace hRs2 := hRs2.ext hG0
  replace hNi0 := hNi0.ext hG0
  replace hc0 := hc0.ext hG0
  replace hNi1 := hNi1.ext hG0
  replace hc1 := hc1.ext hG0
  replace hRi2 := hRi2.ext hG0
  refine LD_iiss hc0 (LD_iiss hb0 ?_)
  refine ⟨Ext.refl _, call (toProblem_ok h0 hS0) ?_⟩
  rintro _ _ ze0 ue0 we0 ⟨rfl, rfl, hH0, hNe0⟩
  replace hE := hE.ext hH0
  replace h0 := h0.ext hH0
  replace h1 := h1.ext hH0
  replace h2 := h2.ext hH0
  replace hb0 := hb0.ext hH0
  replace hb1 := hb1.ext hH0
  replace hNs0 := hNs0.ext hH0
  replace hNs1 := hNs1.ext hH0
  replace hRs2 := hRs2.ext hH0
  replace hNi0 := hNi0.ext hH0
  replace hc0 := hc0.ext hH0
  replace hNi1 := hNi1.ext hH0
  replace hc1 := hc1.ext hH0
  replace hRi2 := hRi2.ext hH0
  refine ⟨hH0, call (eqProblem_ok hNi0 hNe0) ?_⟩
  rintro _ wf0 ⟨rfl, hK0⟩
  replace hE := hE.ext hK0
  replace h0 := h0.ext hK0
  replace h1 := h1.ext hK0
  replace h2 := h2.ext hK0
  replace hb0 := hb0.ext hK0
  replace hb1 := hb1.ext hK0
  replace hNs0 := hNs0.ext hK0
  replace hNs1 := hNs1.ext hK0
  replace hRs2 := hRs2.ext hK0
  replace hNi0 := hNi0.ext hK0
  replace hc0 := hc0.ext hK0
  replace hNi1 := hNi1.ext hK0
  replace hc1 := hc1.ext hK0
  replace hRi2 := hRi2.ext hK0
  refine ⟨hH0.trans hK0, cond_f (by simp) ?_⟩
  intro m1 hG1 _
  replace hE := hE.ext hG1
  replace h0 := h0.ext hG1
  replace h1 := h1.ext hG1
  replace h2 := h2.ext hG1
  replace hb0 := hb0.ext hG1
  replace hb1 := hb1.ext hG1
  replace hNs0 := hNs0.ext hG1
  replace hNs1 := hNs1.ext hG1
  replace hRs2 := hRs2.ext hG1
  replace hNi0 := hNi0.ext hG1
  replace hc0 := hc0.ext hG1
  replace hNi1 := hNi1.ext hG1
  replace hc1 := hc1.ext hG1
  replace hRi2 := hRi2.ext hG1
  refine LD_box3 hc1 (LD_box3 hb1 ?_)
  refine ⟨Ext.refl _, call (toNetwork_ok h1 hS1) ?_⟩
  rintro xe ye ze we1 ⟨hH1, hNe1⟩
  replace hE := hE.ext hH1
  replace h0 := h0.ext hH1
  replace h1 := h1.ext hH1
  replace h2 := h2.ext hH1
  replace hb0 := hb0.ext hH1
  replace hb1 := hb1.ext hH1
  replace hNs0 := hNs0.ext hH1
  replace hNs1 := hNs1.ext hH1
  replace hRs2 := hRs2.ext hH1
  replace hNi0 := hNi0.ext hH1
  replace hc0 := hc0.ext hH1
  replace hNi1 := hNi1.ext hH1
  replace hc1 := hc1.ext hH1
  replace hRi2 := hRi2.ext hH1
  refine ⟨hH1, call (eqNetwork_ok hNi1 hNe1) ?_⟩
  rintro _ wf1 ⟨rfl, hK1⟩
  replace hE := hE.ext hK1
  replace h0 := h0.ext hK1
  replace h1 := h1.ext hK1
  replace h2 := h2.ext hK1
  replace hb0 := hb0.ext hK1
  replace hb1 := hb1.ext hK1
  replace hNs0 := hNs0.ext hK1
  replace hNs1 := hNs1.ext hK1
  replace hRs2 := hRs2.ext hK1
  replace hNi0 := hNi0.ext hK1
  replace hc0 := hc0.ext hK1
  replace hNi1 := hNi1.ext hK1
  replace hc1 := hc1.ext hK1
  replace hRi2 := hRi2.ext hK1
  refine ⟨hH1.trans hK1, cond_f (by simp) ?_⟩
  refine call (toIntSS_own h2 hS2.1 hS2.2) ?_
  rintro se2 we2 ⟨hH2, hOe2⟩
  replace hE := hE.ext hH2
  replace h0 := h0.ext hH2
  replace h1 := h1.ext hH2
  replace h2 := h2.ext hH2
  replace hb0 := hb0.ext hH2
  replace hb1 := hb1.ext hH2
  replace hNs0 := hNs0.ext hH2
  replace hNs1 := hNs1.ext hH2
  replace hRs2 := hRs2.ext hH2
  replace hNi0 := hNi0.ext hH2
  replace hc0 := hc0.ext hH2
  replace hNi1 := hNi1.ext hH2
  replace hc1 := hc1.ext hH2
  replace hRi2 := hRi2.ext hH2
  refine call (eqIntSS_ok hRi2 (hOe2.rep (flat_okII h2))) ?_
  rintro _ wf2 ⟨rfl, hK2⟩
  replace hE := hE.ext hK2
  replace h0 := h0.ext hK2
  replace h1 := h1.ext hK2
  replace h2 := h2.ext hK2
  replace hb0 := hb0.ext hK2
  replace hb1 := hb1.ext hK2
  replace hNs0 := hNs0.ext hK2
  replace hNs1 := hNs1.ext hK2
  replace hRs2 := hRs2.ext hK2
  replace hNi0 := hNi0.ext hK2
  replace hc0 := hc0.ext hK2
  replace hNi1 := hNi1.ext hK2
  replace hc1 := hc1.ext hK2
  replace hRi2 := hRi2.ext hK2
  refine cond_f (by simp) ?_
  exact ⟨rfl, hE⟩

end Go.Proofs.Ytjfodknpphhajaa
