/- The walk of the law FnExactMapLabels. -/
import Derived.Test.YtjfodknpphhajaaGreatMap
import Derived.Test.YtjfodknpphhajaaGreatMark
import Derived.Test.YtjfodknpphhajaaGreatMat
namespace Go.Proofs.YtjfodknpphhajaaGreat
open Go.GX Go.RowKit
set_option maxRecDepth 100000

theorem fnExactMapLabels_ok {w : World} {c0 e0 : Sl} {q0 : Prob} {c1 e1 : Sl} {q1 : Prob} {s2 : Sl} {l2 : List Int} {a3 b3 c3 : Sl} {n3 : Net} {s4 : Sl} {l4 : List (List Int)} (h0 : RProb w c0 e0 q0) (h1 : RProb w c1 e1 q1) (h2 : R w s2 l2) (h3 : RNet w a3 b3 c3 n3) (h4 : R w s4 l4) :
    Calls Tryz.prog F.l_FnExactMapLabels #[.agg #[.int .i64 q0.labels, .int .i64 q0.degree, c0.v, e0.v], .agg #[.int .i64 q1.labels, .int .i64 q1.degree, c1.v, e1.v], s2.v, .agg #[a3.v, b3.v, c3.v], s4.v] w (Ret [.at .bool] fun (x : Bool) w' => x = true ∧ Ext w w') := by
  refine C_l_FnExactMapLabels ?_
  unfold V_l_FnExactMapLabels
  refine NEW_intro fun p0 u0 hp0 hs0 hA0 hb0 => ?_
  have hE := hA0
  replace h0 := h0.ext hA0
  replace h1 := h1.ext hA0
  replace h2 := h2.ext hA0
  replace h3 := h3.ext hA0
  replace h4 := h4.ext hA0
  refine NEW_intro fun p1 u1 hp1 hs1 hA1 hb1 => ?_
  replace hE := hE.ext hA1
  replace h0 := h0.ext hA1
  replace h1 := h1.ext hA1
  replace h2 := h2.ext hA1
  replace h3 := h3.ext hA1
  replace h4 := h4.ext hA1
  replace hb0 := hb0.ext hA1
  refine NEW_intro fun p3 u3 hp3 hs3 hA3 hb3 => ?_
  replace hE := hE.ext hA3
  replace h0 := h0.ext hA3
  replace h1 := h1.ext hA3
  replace h2 := h2.ext hA3
  replace h3 := h3.ext hA3
  replace h4 := h4.ext hA3
  replace hb0 := hb0.ext hA3
  replace hb1 := hb1.ext hA3
  rw [h2.len]
  refine cond_dec (fun _ => ⟨rfl, hE⟩) (fun hm2 => ?_)
  have hm2' : l2.length ≤ 1048576 := by omega
  refine LD_iiss hb0 ?_
  refine call (szProblem_ok h0 1048576 (by omega) (by omega)) ?_
  rintro z0 x0 ⟨hz0, hB0⟩
  replace hE := hE.ext hB0
  replace h0 := h0.ext hB0
  replace h1 := h1.ext hB0
  replace h2 := h2.ext hB0
  replace h3 := h3.ext hB0
  replace h4 := h4.ext hB0
  replace hb0 := hb0.ext hB0
  replace hb1 := hb1.ext hB0
  replace hb3 := hb3.ext hB0
  refine cond_dec (fun _ => ⟨rfl, hE⟩) (fun hzl0 => ?_)
  have hS0 := (hz0 (by omega)).1
  have hzz0 := (hz0 (by omega)).2
  refine LD_iiss hb1 ?_
  refine call (szProblem_ok h1 z0 (by omega) (by omega)) ?_
  rintro z1 x1 ⟨hz1, hB1⟩
  replace hE := hE.ext hB1
  replace h0 := h0.ext hB1
  replace h1 := h1.ext hB1
  replace h2 := h2.ext hB1
  replace h3 := h3.ext hB1
  replace h4 := h4.ext hB1
  replace hb0 := hb0.ext hB1
  replace hb1 := hb1.ext hB1
  replace hb3 := hb3.ext hB1
  refine cond_dec (fun _ => ⟨rfl, hE⟩) (fun hzl1 => ?_)
  have hS1 := (hz1 (by omega)).1
  have hzz1 := (hz1 (by omega)).2
  refine LD_box3 hb3 ?_
  refine call (szNetwork_at h3 z1 (by omega) (by omega)) ?_
  rintro z3 x3 ⟨hz3, hB3⟩
  replace hE := hE.ext hB3
  replace h0 := h0.ext hB3
  replace h1 := h1.ext hB3
  replace h2 := h2.ext hB3
  replace h3 := h3.ext hB3
  replace h4 := h4.ext hB3
  replace hb0 := hb0.ext hB3
  replace hb1 := hb1.ext hB3
  replace hb3 := hb3.ext hB3
  refine cond_dec (fun _ => ⟨rfl, hE⟩) (fun hzl3 => ?_)
  have hS3 := (hz3 (by omega)).1
  have hzz3 := (hz3 (by omega)).2
  refine call (szIntSS_ok h4 z3 (by omega) (by omega)) ?_
  rintro z4 _ ⟨hz4, rfl⟩
  refine cond_dec (fun _ => ⟨rfl, hE⟩) (fun hzl4 => ?_)
  obtain ⟨hzz4, hza4, hzb4⟩ := hz4 (by omega)
  have hS4 : SmallM l4 := ⟨by omega, fun r hr => by have := hzb4 r hr; omega⟩
  intro wS hGS _
  replace hE := hE.ext hGS
  replace h0 := h0.ext hGS
  replace h1 := h1.ext hGS
  replace h2 := h2.ext hGS
  replace h3 := h3.ext hGS
  replace h4 := h4.ext hGS
  replace hb0 := hb0.ext hGS
  replace hb1 := hb1.ext hGS
  replace hb3 := hb3.ext hGS
  have hReg := Ext.refl wS
  refine LD_iiss hb0 (LD_iiss hb1 (LD_box3 hb3 ?_))
  refine call (toProblem_ok h0 hS0) ?_
  rintro _ _ zs0 us0 ws0 ⟨rfl, rfl, hEs0, hNs0⟩
  replace hE := hE.ext hEs0
  replace h0 := h0.ext hEs0
  replace h1 := h1.ext hEs0
  replace h2 := h2.ext hEs0
  replace h3 := h3.ext hEs0
  replace h4 := h4.ext hEs0
  replace hb0 := hb0.ext hEs0
  replace hb1 := hb1.ext hEs0
  replace hb3 := hb3.ext hEs0
  replace hReg := hReg.ext hEs0
  refine ⟨hReg, ?_⟩
  refine call (toProblem_ok h1 hS1) ?_
  rintro _ _ zs1 us1 ws1 ⟨rfl, rfl, hEs1, hNs1⟩
  replace hE := hE.ext hEs1
  replace h0 := h0.ext hEs1
  replace h1 := h1.ext hEs1
  replace h2 := h2.ext hEs1
  replace h3 := h3.ext hEs1
  replace h4 := h4.ext hEs1
  replace hb0 := hb0.ext hEs1
  replace hb1 := hb1.ext hEs1
  replace hb3 := hb3.ext hEs1
  replace hReg := hReg.ext hEs1
  replace hNs0 := hNs0.ext hEs1
  refine ⟨hReg, ?_⟩
  refine call (toIntS_ok h2 hm2') ?_
  rintro ss2 ws2 ⟨hEs2, hOs2⟩
  replace hE := hE.ext hEs2
  replace h0 := h0.ext hEs2
  replace h1 := h1.ext hEs2
  replace h2 := h2.ext hEs2
  replace h3 := h3.ext hEs2
  replace h4 := h4.ext hEs2
  replace hb0 := hb0.ext hEs2
  replace hb1 := hb1.ext hEs2
  replace hb3 := hb3.ext hEs2
  replace hReg := hReg.ext hEs2
  replace hNs0 := hNs0.ext hEs2
  replace hNs1 := hNs1.ext hEs2
  have hRs2 := (hOs2.rep (flat_ok h2)).any
  refine ⟨hReg, ?_⟩
  refine call (toNetwork_ok h3 hS3) ?_
  rintro xs3 ys3 zs3 ws3 ⟨hEs3, hNs3⟩
  replace hE := hE.ext hEs3
  replace h0 := h0.ext hEs3
  replace h1 := h1.ext hEs3
  replace h2 := h2.ext hEs3
  replace h3 := h3.ext hEs3
  replace h4 := h4.ext hEs3
  replace hb0 := hb0.ext hEs3
  replace hb1 := hb1.ext hEs3
  replace hb3 := hb3.ext hEs3
  replace hReg := hReg.ext hEs3
  replace hNs0 := hNs0.ext hEs3
  replace hNs1 := hNs1.ext hEs3
  replace hRs2 := hRs2.ext hEs3
  refine ⟨hReg, ?_⟩
  refine call (toIntSS_own h4 hS4.1 hS4.2) ?_
  rintro ss4 ws4 ⟨hEs4, hOs4⟩
  replace hE := hE.ext hEs4
  replace h0 := h0.ext hEs4
  replace h1 := h1.ext hEs4
  replace h2 := h2.ext hEs4
  replace h3 := h3.ext hEs4
  replace h4 := h4.ext hEs4
  replace hb0 := hb0.ext hEs4
  replace hb1 := hb1.ext hEs4
  replace hb3 := hb3.ext hEs4
  replace hReg := hReg.ext hEs4
  replace hNs0 := hNs0.ext hEs4
  replace hNs1 := hNs1.ext hEs4
  replace hRs2 := hRs2.ext hEs4
  replace hNs3 := hNs3.ext hEs4
  have hRs4 := hOs4.rep (flat_okII h4)
  refine ⟨hReg, ?_⟩
  refine call (sMapLabels_ok hNs0 hNs1 hRs2 hNs3 hRs4) ?_
  rintro r10 r11 wA ⟨hCA, r1L0, hL10, hA1⟩
  replace hE := hE.ext hCA
  replace h0 := h0.ext hCA
  replace h1 := h1.ext hCA
  replace h2 := h2.ext hCA
  replace h3 := h3.ext hCA
  replace h4 := h4.ext hCA
  replace hb0 := hb0.ext hCA
  replace hb1 := hb1.ext hCA
  replace hb3 := hb3.ext hCA
  replace hReg := hReg.ext hCA
  replace hNs0 := hNs0.ext hCA
  replace hNs1 := hNs1.ext hCA
  replace hRs2 := hRs2.ext hCA
  replace hNs3 := hNs3.ext hCA
  replace hRs4 := hRs4.ext hCA
  refine ⟨hReg, ?_⟩
  refine ⟨hReg, ?_⟩
  refine ⟨hReg, ?_⟩
  have hX := Ext.refl wA
  refine LD_iiss (hb0.ext hX) ?_
  have hlo0 := hX.size_le
  refine call (toProblem_own (h0.ext hX) hS0) ?_
  rintro _ _ zi0 ui0 wi0 ⟨rfl, rfl, hEi0, mid0, top0, hOP0⟩
  have hls0 := hEi0.size_le
  replace hX := hX.ext hEi0
  have hM0 := hOP0.mnodes
  have hMe0 := hOP0.medges
  have hlm0 := hOP0.lom
  have hmt0 := hOP0.mhi
  have htw0 := hOP0.top
  have hNi0 := hOP0.prob h0
  have hH0 := Ext.refl wi0
  refine NEW_ST (one4p _ _ _ _) rfl fun yi0 vi0 hqi0 hFi0 hc0 => ?_
  replace hX := hX.ext hFi0
  replace hM0 := hM0.ext hFi0
  replace hMe0 := hMe0.ext hFi0
  replace hNi0 := hNi0.ext hFi0
  replace hH0 := hH0.ext hFi0
  refine LD_iiss (hb1.ext hX) ?_
  have hlp1_0 := hH0.size_le
  have hlo1 := hX.size_le
  refine call (toProblem_own (h1.ext hX) hS1) ?_
  rintro _ _ zi1 ui1 wi1 ⟨rfl, rfl, hEi1, mid1, top1, hOP1⟩
  have hls1 := hEi1.size_le
  replace hX := hX.ext hEi1
  replace hM0 := hM0.ext hEi1
  replace hMe0 := hMe0.ext hEi1
  replace hNi0 := hNi0.ext hEi1
  replace hH0 := hH0.ext hEi1
  replace hc0 := hc0.ext hEi1
  have hM1 := hOP1.mnodes
  have hMe1 := hOP1.medges
  have hlm1 := hOP1.lom
  have hmt1 := hOP1.mhi
  have htw1 := hOP1.top
  have hNi1 := hOP1.prob h1
  have hH1 := Ext.refl wi1
  refine NEW_ST (one4p _ _ _ _) rfl fun yi1 vi1 hqi1 hFi1 hc1 => ?_
  replace hX := hX.ext hFi1
  replace hM0 := hM0.ext hFi1
  replace hMe0 := hMe0.ext hFi1
  replace hNi0 := hNi0.ext hFi1
  replace hH0 := hH0.ext hFi1
  replace hc0 := hc0.ext hFi1
  replace hM1 := hM1.ext hFi1
  replace hMe1 := hMe1.ext hFi1
  replace hNi1 := hNi1.ext hFi1
  replace hH1 := hH1.ext hFi1
  have hlp2_0 := hH0.size_le
  have hlp2_1 := hH1.size_le
  have hlo2 := hX.size_le
  refine call (toIntS_ok (h2.ext hX) hm2') ?_
  rintro si2 wi2 ⟨hEi2, hOi2⟩
  have hls2 := hEi2.size_le
  replace hX := hX.ext hEi2
  replace hM0 := hM0.ext hEi2
  replace hMe0 := hMe0.ext hEi2
  replace hNi0 := hNi0.ext hEi2
  replace hH0 := hH0.ext hEi2
  replace hc0 := hc0.ext hEi2
  replace hM1 := hM1.ext hEi2
  replace hMe1 := hMe1.ext hEi2
  replace hNi1 := hNi1.ext hEi2
  replace hH1 := hH1.ext hEi2
  replace hc1 := hc1.ext hEi2
  have hRi2 := (hOi2.rep (flat_ok h2)).any
  have hM2 := mint_of hOi2 hm2'
  have hH2 := Ext.refl wi2
  refine LD_box3 (hb3.ext hX) ?_
  have hlp3_0 := hH0.size_le
  have hlp3_1 := hH1.size_le
  have hlp3_2 := hH2.size_le
  have hlo3 := hX.size_le
  refine call (toNetwork_own (h3.ext hX) hS3) ?_
  rintro xi3 yi3 zi3 wi3 ⟨hEi3, hON3⟩
  have hls3 := hEi3.size_le
  replace hX := hX.ext hEi3
  replace hM0 := hM0.ext hEi3
  replace hMe0 := hMe0.ext hEi3
  replace hNi0 := hNi0.ext hEi3
  replace hH0 := hH0.ext hEi3
  replace hc0 := hc0.ext hEi3
  replace hM1 := hM1.ext hEi3
  replace hMe1 := hMe1.ext hEi3
  replace hNi1 := hNi1.ext hEi3
  replace hH1 := hH1.ext hEi3
  replace hc1 := hc1.ext hEi3
  replace hRi2 := hRi2.ext hEi3
  replace hM2 := hM2.ext hEi3
  replace hH2 := hH2.ext hEi3
  have hM3 := hON3.mnet hS3
  have hNi3 := hON3.net h3
  have hH3 := Ext.refl wi3
  refine NEW_ST (one3 _ _ _) rfl fun qi3 vi3 hqi3 hFi3 hc3 => ?_
  replace hX := hX.ext hFi3
  replace hM0 := hM0.ext hFi3
  replace hMe0 := hMe0.ext hFi3
  replace hNi0 := hNi0.ext hFi3
  replace hH0 := hH0.ext hFi3
  replace hc0 := hc0.ext hFi3
  replace hM1 := hM1.ext hFi3
  replace hMe1 := hMe1.ext hFi3
  replace hNi1 := hNi1.ext hFi3
  replace hH1 := hH1.ext hFi3
  replace hc1 := hc1.ext hFi3
  replace hRi2 := hRi2.ext hFi3
  replace hM2 := hM2.ext hFi3
  replace hH2 := hH2.ext hFi3
  replace hM3 := hM3.ext hFi3
  replace hNi3 := hNi3.ext hFi3
  replace hH3 := hH3.ext hFi3
  have hlp4_0 := hH0.size_le
  have hlp4_1 := hH1.size_le
  have hlp4_2 := hH2.size_le
  have hlp4_3 := hH3.size_le
  have hlo4 := hX.size_le
  refine call (toIntSS_own (h4.ext hX) hS4.1 hS4.2) ?_
  rintro si4 wi4 ⟨hEi4, hOi4⟩
  have hls4 := hEi4.size_le
  replace hX := hX.ext hEi4
  replace hM0 := hM0.ext hEi4
  replace hMe0 := hMe0.ext hEi4
  replace hNi0 := hNi0.ext hEi4
  replace hH0 := hH0.ext hEi4
  replace hc0 := hc0.ext hEi4
  replace hM1 := hM1.ext hEi4
  replace hMe1 := hMe1.ext hEi4
  replace hNi1 := hNi1.ext hEi4
  replace hH1 := hH1.ext hEi4
  replace hc1 := hc1.ext hEi4
  replace hRi2 := hRi2.ext hEi4
  replace hM2 := hM2.ext hEi4
  replace hH2 := hH2.ext hEi4
  replace hM3 := hM3.ext hEi4
  replace hNi3 := hNi3.ext hEi4
  replace hH3 := hH3.ext hEi4
  replace hc3 := hc3.ext hEi4
  have hRi4 := hOi4.rep (flat_okII h4)
  have hM4 := mintss_of hOi4 hS4.1 hS4.2
  have hH4 := Ext.refl wi4
  refine LD_iiss hc0 ?_
  refine LD_iiss hc1 ?_
  refine LD_box3 hc3 ?_
  have hhi0 := hH0.size_le
  have hhi1 := hH1.size_le
  have hhi2 := hH2.size_le
  have hhi3 := hH3.size_le
  have hhi4 := hH4.size_le
  have hXD := hX.size_le
  refine call (MapLabels_ok hNi0 hNi1 hRi2 hNi3 hRi4 hS0 hS1 hS3 hS4) ?_
  rintro r20 r21 wE ⟨hCE, r2L0, hG20, hA2⟩
  replace hX := hX.ext hCE
  replace hM0 := hM0.ext hCE
  replace hMe0 := hMe0.ext hCE
  replace hNi0 := hNi0.ext hCE
  replace hH0 := hH0.ext hCE
  replace hc0 := hc0.ext hCE
  replace hM1 := hM1.ext hCE
  replace hMe1 := hMe1.ext hCE
  replace hNi1 := hNi1.ext hCE
  replace hH1 := hH1.ext hCE
  replace hc1 := hc1.ext hCE
  replace hRi2 := hRi2.ext hCE
  replace hM2 := hM2.ext hCE
  replace hH2 := hH2.ext hCE
  replace hM3 := hM3.ext hCE
  replace hNi3 := hNi3.ext hCE
  replace hH3 := hH3.ext hCE
  replace hc3 := hc3.ext hCE
  replace hRi4 := hRi4.ext hCE
  replace hM4 := hM4.ext hCE
  replace hH4 := hH4.ext hCE
  obtain ⟨rfl, rfl⟩ := hA1.eq hA2
  refine call (eqIntSS_ok hG20.rep (hL10.ext hX)) ?_
  rintro _ we1 ⟨rfl, hK⟩
  replace hX := hX.ext hK
  replace hM0 := hM0.ext hK
  replace hMe0 := hMe0.ext hK
  replace hNi0 := hNi0.ext hK
  replace hH0 := hH0.ext hK
  replace hc0 := hc0.ext hK
  replace hM1 := hM1.ext hK
  replace hMe1 := hMe1.ext hK
  replace hNi1 := hNi1.ext hK
  replace hH1 := hH1.ext hK
  replace hc1 := hc1.ext hK
  replace hRi2 := hRi2.ext hK
  replace hM2 := hM2.ext hK
  replace hH2 := hH2.ext hK
  replace hM3 := hM3.ext hK
  replace hNi3 := hNi3.ext hK
  replace hH3 := hH3.ext hK
  replace hc3 := hc3.ext hK
  replace hRi4 := hRi4.ext hK
  replace hM4 := hM4.ext hK
  replace hH4 := hH4.ext hK
  replace hG20 := hG20.ext hK
  refine cond_f (by simp) ?_
  refine cond_f (by simp) ?_
  unfold V_l_FnExactMapLabels_k6
  intro m0 hG0 _
  replace hX := hX.ext hG0
  replace hM0 := hM0.ext hG0
  replace hMe0 := hMe0.ext hG0
  replace hNi0 := hNi0.ext hG0
  replace hH0 := hH0.ext hG0
  replace hc0 := hc0.ext hG0
  replace hM1 := hM1.ext hG0
  replace hMe1 := hMe1.ext hG0
  replace hNi1 := hNi1.ext hG0
  replace hH1 := hH1.ext hG0
  replace hc1 := hc1.ext hG0
  replace hRi2 := hRi2.ext hG0
  replace hM2 := hM2.ext hG0
  replace hH2 := hH2.ext hG0
  replace hM3 := hM3.ext hG0
  replace hNi3 := hNi3.ext hG0
  replace hH3 := hH3.ext hG0
  replace hc3 := hc3.ext hG0
  replace hRi4 := hRi4.ext hG0
  replace hM4 := hM4.ext hG0
  replace hH4 := hH4.ext hG0
  replace hG20 := hG20.ext hG0
  refine LD_iiss hc0 (LD_iiss (hb0.ext hX) ?_)
  refine ⟨Ext.refl _, call (toProblem_ok (h0.ext hX) hS0) ?_⟩
  rintro _ _ ze0 ue0 we0' ⟨rfl, rfl, hHe0, hNe0⟩
  replace hX := hX.ext hHe0
  replace hM0 := hM0.ext hHe0
  replace hMe0 := hMe0.ext hHe0
  replace hNi0 := hNi0.ext hHe0
  replace hH0 := hH0.ext hHe0
  replace hc0 := hc0.ext hHe0
  replace hM1 := hM1.ext hHe0
  replace hMe1 := hMe1.ext hHe0
  replace hNi1 := hNi1.ext hHe0
  replace hH1 := hH1.ext hHe0
  replace hc1 := hc1.ext hHe0
  replace hRi2 := hRi2.ext hHe0
  replace hM2 := hM2.ext hHe0
  replace hH2 := hH2.ext hHe0
  replace hM3 := hM3.ext hHe0
  replace hNi3 := hNi3.ext hHe0
  replace hH3 := hH3.ext hHe0
  replace hc3 := hc3.ext hHe0
  replace hRi4 := hRi4.ext hHe0
  replace hM4 := hM4.ext hHe0
  replace hH4 := hH4.ext hHe0
  replace hG20 := hG20.ext hHe0
  refine ⟨hHe0, call (eqProblem_ok hNi0 hNe0) ?_⟩
  rintro _ wf0 ⟨rfl, hK0⟩
  replace hX := hX.ext hK0
  replace hM0 := hM0.ext hK0
  replace hMe0 := hMe0.ext hK0
  replace hNi0 := hNi0.ext hK0
  replace hH0 := hH0.ext hK0
  replace hc0 := hc0.ext hK0
  replace hM1 := hM1.ext hK0
  replace hMe1 := hMe1.ext hK0
  replace hNi1 := hNi1.ext hK0
  replace hH1 := hH1.ext hK0
  replace hc1 := hc1.ext hK0
  replace hRi2 := hRi2.ext hK0
  replace hM2 := hM2.ext hK0
  replace hH2 := hH2.ext hK0
  replace hM3 := hM3.ext hK0
  replace hNi3 := hNi3.ext hK0
  replace hH3 := hH3.ext hK0
  replace hc3 := hc3.ext hK0
  replace hRi4 := hRi4.ext hK0
  replace hM4 := hM4.ext hK0
  replace hH4 := hH4.ext hK0
  replace hG20 := hG20.ext hK0
  refine ⟨hHe0.trans hK0, cond_f (by simp) ?_⟩
  intro m1 hG1 _
  replace hX := hX.ext hG1
  replace hM0 := hM0.ext hG1
  replace hMe0 := hMe0.ext hG1
  replace hNi0 := hNi0.ext hG1
  replace hH0 := hH0.ext hG1
  replace hc0 := hc0.ext hG1
  replace hM1 := hM1.ext hG1
  replace hMe1 := hMe1.ext hG1
  replace hNi1 := hNi1.ext hG1
  replace hH1 := hH1.ext hG1
  replace hc1 := hc1.ext hG1
  replace hRi2 := hRi2.ext hG1
  replace hM2 := hM2.ext hG1
  replace hH2 := hH2.ext hG1
  replace hM3 := hM3.ext hG1
  replace hNi3 := hNi3.ext hG1
  replace hH3 := hH3.ext hG1
  replace hc3 := hc3.ext hG1
  replace hRi4 := hRi4.ext hG1
  replace hM4 := hM4.ext hG1
  replace hH4 := hH4.ext hG1
  replace hG20 := hG20.ext hG1
  refine LD_iiss hc1 (LD_iiss (hb1.ext hX) ?_)
  refine ⟨Ext.refl _, call (toProblem_ok (h1.ext hX) hS1) ?_⟩
  rintro _ _ ze1 ue1 we1' ⟨rfl, rfl, hHe1, hNe1⟩
  replace hX := hX.ext hHe1
  replace hM0 := hM0.ext hHe1
  replace hMe0 := hMe0.ext hHe1
  replace hNi0 := hNi0.ext hHe1
  replace hH0 := hH0.ext hHe1
  replace hc0 := hc0.ext hHe1
  replace hM1 := hM1.ext hHe1
  replace hMe1 := hMe1.ext hHe1
  replace hNi1 := hNi1.ext hHe1
  replace hH1 := hH1.ext hHe1
  replace hc1 := hc1.ext hHe1
  replace hRi2 := hRi2.ext hHe1
  replace hM2 := hM2.ext hHe1
  replace hH2 := hH2.ext hHe1
  replace hM3 := hM3.ext hHe1
  replace hNi3 := hNi3.ext hHe1
  replace hH3 := hH3.ext hHe1
  replace hc3 := hc3.ext hHe1
  replace hRi4 := hRi4.ext hHe1
  replace hM4 := hM4.ext hHe1
  replace hH4 := hH4.ext hHe1
  replace hG20 := hG20.ext hHe1
  refine ⟨hHe1, call (eqProblem_ok hNi1 hNe1) ?_⟩
  rintro _ wf1 ⟨rfl, hK1⟩
  replace hX := hX.ext hK1
  replace hM0 := hM0.ext hK1
  replace hMe0 := hMe0.ext hK1
  replace hNi0 := hNi0.ext hK1
  replace hH0 := hH0.ext hK1
  replace hc0 := hc0.ext hK1
  replace hM1 := hM1.ext hK1
  replace hMe1 := hMe1.ext hK1
  replace hNi1 := hNi1.ext hK1
  replace hH1 := hH1.ext hK1
  replace hc1 := hc1.ext hK1
  replace hRi2 := hRi2.ext hK1
  replace hM2 := hM2.ext hK1
  replace hH2 := hH2.ext hK1
  replace hM3 := hM3.ext hK1
  replace hNi3 := hNi3.ext hK1
  replace hH3 := hH3.ext hK1
  replace hc3 := hc3.ext hK1
  replace hRi4 := hRi4.ext hK1
  replace hM4 := hM4.ext hK1
  replace hH4 := hH4.ext hK1
  replace hG20 := hG20.ext hK1
  refine ⟨hHe1.trans hK1, cond_f (by simp) ?_⟩
  refine call (toIntS_ok (h2.ext hX) hm2') ?_
  rintro se2 we2' ⟨hHe2, hOe2⟩
  replace hX := hX.ext hHe2
  replace hM0 := hM0.ext hHe2
  replace hMe0 := hMe0.ext hHe2
  replace hNi0 := hNi0.ext hHe2
  replace hH0 := hH0.ext hHe2
  replace hc0 := hc0.ext hHe2
  replace hM1 := hM1.ext hHe2
  replace hMe1 := hMe1.ext hHe2
  replace hNi1 := hNi1.ext hHe2
  replace hH1 := hH1.ext hHe2
  replace hc1 := hc1.ext hHe2
  replace hRi2 := hRi2.ext hHe2
  replace hM2 := hM2.ext hHe2
  replace hH2 := hH2.ext hHe2
  replace hM3 := hM3.ext hHe2
  replace hNi3 := hNi3.ext hHe2
  replace hH3 := hH3.ext hHe2
  replace hc3 := hc3.ext hHe2
  replace hRi4 := hRi4.ext hHe2
  replace hM4 := hM4.ext hHe2
  replace hH4 := hH4.ext hHe2
  replace hG20 := hG20.ext hHe2
  refine call (eqIntS_ok hRi2 (hOe2.rep (flat_ok h2)).any) ?_
  rintro _ wf2 ⟨rfl, hK2⟩
  replace hX := hX.ext hK2
  replace hM0 := hM0.ext hK2
  replace hMe0 := hMe0.ext hK2
  replace hNi0 := hNi0.ext hK2
  replace hH0 := hH0.ext hK2
  replace hc0 := hc0.ext hK2
  replace hM1 := hM1.ext hK2
  replace hMe1 := hMe1.ext hK2
  replace hNi1 := hNi1.ext hK2
  replace hH1 := hH1.ext hK2
  replace hc1 := hc1.ext hK2
  replace hRi2 := hRi2.ext hK2
  replace hM2 := hM2.ext hK2
  replace hH2 := hH2.ext hK2
  replace hM3 := hM3.ext hK2
  replace hNi3 := hNi3.ext hK2
  replace hH3 := hH3.ext hK2
  replace hc3 := hc3.ext hK2
  replace hRi4 := hRi4.ext hK2
  replace hM4 := hM4.ext hK2
  replace hH4 := hH4.ext hK2
  replace hG20 := hG20.ext hK2
  refine cond_f (by simp) ?_
  intro m3 hG3 _
  replace hX := hX.ext hG3
  replace hM0 := hM0.ext hG3
  replace hMe0 := hMe0.ext hG3
  replace hNi0 := hNi0.ext hG3
  replace hH0 := hH0.ext hG3
  replace hc0 := hc0.ext hG3
  replace hM1 := hM1.ext hG3
  replace hMe1 := hMe1.ext hG3
  replace hNi1 := hNi1.ext hG3
  replace hH1 := hH1.ext hG3
  replace hc1 := hc1.ext hG3
  replace hRi2 := hRi2.ext hG3
  replace hM2 := hM2.ext hG3
  replace hH2 := hH2.ext hG3
  replace hM3 := hM3.ext hG3
  replace hNi3 := hNi3.ext hG3
  replace hH3 := hH3.ext hG3
  replace hc3 := hc3.ext hG3
  replace hRi4 := hRi4.ext hG3
  replace hM4 := hM4.ext hG3
  replace hH4 := hH4.ext hG3
  replace hG20 := hG20.ext hG3
  refine LD_box3 hc3 (LD_box3 (hb3.ext hX) ?_)
  refine ⟨Ext.refl _, call (toNetwork_ok (h3.ext hX) hS3) ?_⟩
  rintro xe3 ye3 ze3 we3' ⟨hHe3, hNe3⟩
  replace hX := hX.ext hHe3
  replace hM0 := hM0.ext hHe3
  replace hMe0 := hMe0.ext hHe3
  replace hNi0 := hNi0.ext hHe3
  replace hH0 := hH0.ext hHe3
  replace hc0 := hc0.ext hHe3
  replace hM1 := hM1.ext hHe3
  replace hMe1 := hMe1.ext hHe3
  replace hNi1 := hNi1.ext hHe3
  replace hH1 := hH1.ext hHe3
  replace hc1 := hc1.ext hHe3
  replace hRi2 := hRi2.ext hHe3
  replace hM2 := hM2.ext hHe3
  replace hH2 := hH2.ext hHe3
  replace hM3 := hM3.ext hHe3
  replace hNi3 := hNi3.ext hHe3
  replace hH3 := hH3.ext hHe3
  replace hc3 := hc3.ext hHe3
  replace hRi4 := hRi4.ext hHe3
  replace hM4 := hM4.ext hHe3
  replace hH4 := hH4.ext hHe3
  replace hG20 := hG20.ext hHe3
  refine ⟨hHe3, call (eqNetwork_ok hNi3 hNe3) ?_⟩
  rintro _ wf3 ⟨rfl, hK3⟩
  replace hX := hX.ext hK3
  replace hM0 := hM0.ext hK3
  replace hMe0 := hMe0.ext hK3
  replace hNi0 := hNi0.ext hK3
  replace hH0 := hH0.ext hK3
  replace hc0 := hc0.ext hK3
  replace hM1 := hM1.ext hK3
  replace hMe1 := hMe1.ext hK3
  replace hNi1 := hNi1.ext hK3
  replace hH1 := hH1.ext hK3
  replace hc1 := hc1.ext hK3
  replace hRi2 := hRi2.ext hK3
  replace hM2 := hM2.ext hK3
  replace hH2 := hH2.ext hK3
  replace hM3 := hM3.ext hK3
  replace hNi3 := hNi3.ext hK3
  replace hH3 := hH3.ext hK3
  replace hc3 := hc3.ext hK3
  replace hRi4 := hRi4.ext hK3
  replace hM4 := hM4.ext hK3
  replace hH4 := hH4.ext hK3
  replace hG20 := hG20.ext hK3
  refine ⟨hHe3.trans hK3, cond_f (by simp) ?_⟩
  refine call (toIntSS_own (h4.ext hX) hS4.1 hS4.2) ?_
  rintro se4 we4' ⟨hHe4, hOe4⟩
  replace hX := hX.ext hHe4
  replace hM0 := hM0.ext hHe4
  replace hMe0 := hMe0.ext hHe4
  replace hNi0 := hNi0.ext hHe4
  replace hH0 := hH0.ext hHe4
  replace hc0 := hc0.ext hHe4
  replace hM1 := hM1.ext hHe4
  replace hMe1 := hMe1.ext hHe4
  replace hNi1 := hNi1.ext hHe4
  replace hH1 := hH1.ext hHe4
  replace hc1 := hc1.ext hHe4
  replace hRi2 := hRi2.ext hHe4
  replace hM2 := hM2.ext hHe4
  replace hH2 := hH2.ext hHe4
  replace hM3 := hM3.ext hHe4
  replace hNi3 := hNi3.ext hHe4
  replace hH3 := hH3.ext hHe4
  replace hc3 := hc3.ext hHe4
  replace hRi4 := hRi4.ext hHe4
  replace hM4 := hM4.ext hHe4
  replace hH4 := hH4.ext hHe4
  replace hG20 := hG20.ext hHe4
  refine call (eqIntSS_ok hRi4 (hOe4.rep (flat_okII h4))) ?_
  rintro _ wf4 ⟨rfl, hK4⟩
  replace hX := hX.ext hK4
  replace hM0 := hM0.ext hK4
  replace hMe0 := hMe0.ext hK4
  replace hNi0 := hNi0.ext hK4
  replace hH0 := hH0.ext hK4
  replace hc0 := hc0.ext hK4
  replace hM1 := hM1.ext hK4
  replace hMe1 := hMe1.ext hK4
  replace hNi1 := hNi1.ext hK4
  replace hH1 := hH1.ext hK4
  replace hc1 := hc1.ext hK4
  replace hRi2 := hRi2.ext hK4
  replace hM2 := hM2.ext hK4
  replace hH2 := hH2.ext hK4
  replace hM3 := hM3.ext hK4
  replace hNi3 := hNi3.ext hK4
  replace hH3 := hH3.ext hK4
  replace hc3 := hc3.ext hK4
  replace hRi4 := hRi4.ext hK4
  replace hM4 := hM4.ext hK4
  replace hH4 := hH4.ext hK4
  replace hG20 := hG20.ext hK4
  refine cond_f (by simp) ?_
  refine LD_iiss hc0 ?_
  refine call (markProblem_ok hM0 hMe0 hlm0 hmt0 (by have := hH0.size_le; omega) _ (by omega) (by omega)) ?_
  rintro k0 wm0 ⟨hk0, hkk0, hSh, hCh⟩
  have hzk0 := hCh.size
  replace hX := hCh.extR hX (by omega)
  replace hG20 := hG20.chgR hCh (by omega)
  replace hM1 := hM1.chg hSh hCh (by omega)
  replace hMe1 := hMe1.chg hSh hCh (by omega)
  replace hc1 := hc1.chg hCh (by omega)
  replace hM2 := hM2.shp hSh
  replace hM3 := hM3.chg hSh hCh (by omega)
  replace hc3 := hc3.chg hCh (by omega)
  replace hM4 := hM4.chg hSh hCh (by omega)
  refine LD_iiss hc1 ?_
  refine call (markProblem_ok hM1 hMe1 hlm1 hmt1 (by have := hH1.size_le; omega) _ (by omega) (by omega)) ?_
  rintro k1 wm1 ⟨hk1, hkk1, hSh, hCh⟩
  have hzk1 := hCh.size
  replace hX := hCh.extR hX (by omega)
  replace hG20 := hG20.chgR hCh (by omega)
  replace hM2 := hM2.shp hSh
  replace hM3 := hM3.chg hSh hCh (by omega)
  replace hc3 := hc3.chg hCh (by omega)
  replace hM4 := hM4.chg hSh hCh (by omega)
  refine call (markIntS_wr hM2.wr _ (by omega) (by omega) hM2.len) ?_
  rintro k2 wm2 ⟨hk2, hSh, hCh⟩
  have hml2 := hM2.len
  replace hCh := hCh.mono hM2.blk
  have hzk2 := hCh.size
  replace hX := hCh.extR hX (by omega)
  replace hG20 := hG20.chgR hCh (by omega)
  replace hM3 := hM3.chg hSh hCh (by omega)
  replace hc3 := hc3.chg hCh (by omega)
  replace hM4 := hM4.chg hSh hCh (by omega)
  refine LD_box3 hc3 ?_
  refine call (markNetwork_at _ (by omega) (by omega) hM3 (by have := hH3.size_le; omega)) ?_
  rintro k3 wm3 ⟨hk3, hkk3, hSh, hCh⟩
  have hzk3 := hCh.size
  replace hX := hCh.extR hX (by omega)
  replace hG20 := hG20.chgR hCh (by omega)
  replace hM4 := hM4.chg hSh hCh (by omega)
  refine call (markIntSS_ok hM4 _ (by omega) (by omega)) ?_
  rintro k4 wm4 ⟨hk4, hkk4, hSh, hCh⟩
  have hzk4 := hCh.size
  replace hX := hCh.extR hX (by omega)
  replace hG20 := hG20.chgR hCh (by omega)
  refine cond_df (by omega) ?_
  refine call (eqIntSS_ok hG20.rep (hL10.ext hX)) ?_
  rintro _ we2 ⟨rfl, hK⟩
  replace hX := hX.ext hK
  replace hG20 := hG20.ext hK
  refine cond_f (by simp) ?_
  refine cond_f (by simp) ?_
  unfold V_l_FnExactMapLabels_k13
  have hl0 := hG20.rows
  have hll0 := hG20.small
  have hpl0 := pre_le hll0 _ (Nat.le_refl _)
  refine call (markIntSS_out hG20 1 (by omega) (by omega)) ?_
  rintro mk0 wg0 ⟨hmk0, hMk0, hSt⟩
  replace hX := hSt.extB hX (by omega)
  refine call (heldIntSS_ok 1 hMk0 (by omega) (by omega) hl0 hll0) ?_
  rintro _ _ ⟨rfl, rfl⟩
  refine cond_df (by omega) ?_
  refine cond_f (by simp [hmk0]) ?_
  intro wT hGT _
  replace hX := hX.ext hGT
  replace hMk0 := hMk0.ext hGT
  have hReg := Ext.refl wT
  refine LD_iiss (hb0.ext hX) (LD_iiss (hb1.ext hX) (LD_box3 (hb3.ext hX) ?_))
  refine call (toProblem_ok (h0.ext hX) hS0) ?_
  rintro _ _ zj0 uj0 wj0 ⟨rfl, rfl, hEj0, hNj0⟩
  replace hX := hX.ext hEj0
  replace hMk0 := hMk0.ext hEj0
  replace hReg := hReg.ext hEj0
  refine ⟨hReg, ?_⟩
  refine call (toProblem_ok (h1.ext hX) hS1) ?_
  rintro _ _ zj1 uj1 wj1 ⟨rfl, rfl, hEj1, hNj1⟩
  replace hX := hX.ext hEj1
  replace hMk0 := hMk0.ext hEj1
  replace hReg := hReg.ext hEj1
  replace hNj0 := hNj0.ext hEj1
  refine ⟨hReg, ?_⟩
  refine call (toIntS_ok (h2.ext hX) hm2') ?_
  rintro sj2 wj2 ⟨hEj2, hOj2⟩
  replace hX := hX.ext hEj2
  replace hMk0 := hMk0.ext hEj2
  replace hReg := hReg.ext hEj2
  replace hNj0 := hNj0.ext hEj2
  replace hNj1 := hNj1.ext hEj2
  have hRj2 := (hOj2.rep (flat_ok h2)).any
  refine ⟨hReg, ?_⟩
  refine call (toNetwork_ok (h3.ext hX) hS3) ?_
  rintro xj3 yj3 zj3 wj3 ⟨hEj3, hNj3⟩
  replace hX := hX.ext hEj3
  replace hMk0 := hMk0.ext hEj3
  replace hReg := hReg.ext hEj3
  replace hNj0 := hNj0.ext hEj3
  replace hNj1 := hNj1.ext hEj3
  replace hRj2 := hRj2.ext hEj3
  refine ⟨hReg, ?_⟩
  refine call (toIntSS_own (h4.ext hX) hS4.1 hS4.2) ?_
  rintro sj4 wj4 ⟨hEj4, hOj4⟩
  replace hX := hX.ext hEj4
  replace hMk0 := hMk0.ext hEj4
  replace hReg := hReg.ext hEj4
  replace hNj0 := hNj0.ext hEj4
  replace hNj1 := hNj1.ext hEj4
  replace hRj2 := hRj2.ext hEj4
  replace hNj3 := hNj3.ext hEj4
  have hRj4 := hOj4.rep (flat_okII h4)
  refine ⟨hReg, ?_⟩
  refine call (MapLabels_ok hNj0 hNj1 hRj2 hNj3 hRj4 hS0 hS1 hS3 hS4) ?_
  rintro r30 r31 wH ⟨hCH, r3L0, hG30, hA3⟩
  replace hX := hX.ext hCH
  replace hMk0 := hMk0.ext hCH
  replace hReg := hReg.ext hCH
  replace hNj0 := hNj0.ext hCH
  replace hNj1 := hNj1.ext hCH
  replace hRj2 := hRj2.ext hCH
  replace hNj3 := hNj3.ext hCH
  replace hRj4 := hRj4.ext hCH
  refine ⟨hReg, ?_⟩
  refine ⟨hReg, ?_⟩
  refine ⟨hReg, ?_⟩
  obtain ⟨rfl, rfl⟩ := hA1.eq hA3
  refine call (eqIntSS_ok hG30.rep (hL10.ext hX)) ?_
  rintro _ we3 ⟨rfl, hK⟩
  replace hX := hX.ext hK
  replace hMk0 := hMk0.ext hK
  replace hNj0 := hNj0.ext hK
  replace hNj1 := hNj1.ext hK
  replace hRj2 := hRj2.ext hK
  replace hNj3 := hNj3.ext hK
  replace hRj4 := hRj4.ext hK
  replace hG30 := hG30.ext hK
  refine cond_f (by simp) ?_
  refine cond_f (by simp) ?_
  refine call (heldIntSS_ok 1 hMk0 (by omega) (by omega) hl0 hll0) ?_
  rintro _ _ ⟨rfl, rfl⟩
  refine cond_df (by omega) ?_
  refine cond_f (by simp [hmk0]) ?_
  exact ⟨rfl, hE.trans hX⟩

end Go.Proofs.YtjfodknpphhajaaGreat
