/- The walk of the law FnExactIsDistanceColouring. -/
import Derived.Test.YtoeaoinedidbiaaFarCol
namespace Go.Proofs.Ytoeaoinedidbiaa
open Go.GX Go.RowKit
set_option maxRecDepth 100000

theorem fnExactIsDistanceColouring_ok {w : World} {a0 b0 c0 : Sl} {n0 : Net} {s1 : Sl} {l1 : List Int} {d2 : Int} (h0 : RNet w a0 b0 c0 n0) (h1 : R w s1 l1) (h2 : I64 d2) :
    Calls Try.prog F.l_FnExactIsDistanceColouring #[.agg #[a0.v, b0.v, c0.v], s1.v, .int .i64 d2] w (Ret [.at .bool] fun (x : Bool) w' => x = true ∧ Ext w w') := by
  refine C_l_FnExactIsDistanceColouring ?_
  unfold V_l_FnExactIsDistanceColouring
  refine NEW_intro fun p0 u0 hp0 hs0 hA0 hb0 => ?_
  have hE := hA0
  replace h0 := h0.ext hA0
  replace h1 := h1.ext hA0
  rw [h1.len]
  refine cond_dec (fun _ => ⟨rfl, hE⟩) (fun hm1 => ?_)
  have hm1' : l1.length ≤ 1048576 := by omega
  refine LD_box3 hb0 ?_
  refine call (szNetwork_le h0) ?_
  rintro z0 x0 ⟨hz0, hB0⟩
  replace hE := hE.ext hB0
  replace h0 := h0.ext hB0
  replace h1 := h1.ext hB0
  replace hb0 := hb0.ext hB0
  refine cond_dec (fun _ => ⟨rfl, hE⟩) (fun hzl0 => ?_)
  have hS0 := (hz0 (by omega)).1
  have hzz0 := (hz0 (by omega)).2
  refine LD_box3 hb0 ?_
  refine call (toNetwork_ok h0 hS0) ?_
  rintro xs0 ys0 zs0 ws0 ⟨hEs0, hNs0⟩
  replace hE := hE.ext hEs0
  replace h0 := h0.ext hEs0
  replace h1 := h1.ext hEs0
  replace hb0 := hb0.ext hEs0
  refine call (toIntS_ok h1 hm1') ?_
  rintro ss1 ws1 ⟨hEs1, hOs1⟩
  replace hE := hE.ext hEs1
  replace h0 := h0.ext hEs1
  replace h1 := h1.ext hEs1
  replace hb0 := hb0.ext hEs1
  replace hNs0 := hNs0.ext hEs1
  have hRs1 := (hOs1.rep (flat_ok h1)).any
  refine call (sIsDistanceColouring_ok hNs0 hRs1 h2) ?_
  rintro r10 r11 wA ⟨hA1, hC1⟩
  replace hE := hE.ext hC1
  replace h0 := h0.ext hC1
  replace h1 := h1.ext hC1
  replace hb0 := hb0.ext hC1
  replace hNs0 := hNs0.ext hC1
  replace hRs1 := hRs1.ext hC1
  refine LD_box3 hb0 ?_
  refine call (toNetwork_ok h0 hS0) ?_
  rintro xi0 yi0 zi0 wi0 ⟨hEi0, hNi0⟩
  replace hE := hE.ext hEi0
  replace h0 := h0.ext hEi0
  replace h1 := h1.ext hEi0
  replace hb0 := hb0.ext hEi0
  replace hNs0 := hNs0.ext hEi0
  replace hRs1 := hRs1.ext hEi0
  refine NEW_ST (one3 _ _ _) rfl fun qi0 vi0 hqi0 hFi0 hc0 => ?_
  replace hE := hE.ext hFi0
  replace h0 := h0.ext hFi0
  replace h1 := h1.ext hFi0
  replace hb0 := hb0.ext hFi0
  replace hNs0 := hNs0.ext hFi0
  replace hRs1 := hRs1.ext hFi0
  replace hNi0 := hNi0.ext hFi0
  refine call (toIntS_ok h1 hm1') ?_
  rintro si1 wi1 ⟨hEi1, hOi1⟩
  replace hE := hE.ext hEi1
  replace h0 := h0.ext hEi1
  replace h1 := h1.ext hEi1
  replace hb0 := hb0.ext hEi1
  replace hNs0 := hNs0.ext hEi1
  replace hRs1 := hRs1.ext hEi1
  replace hNi0 := hNi0.ext hEi1
  replace hc0 := hc0.ext hEi1
  have hRi1 := (hOi1.rep (flat_ok h1)).any
  refine LD_box3 hc0 ?_
  refine call (IsDistanceColouring_ok hNi0 hRi1 h2 hS0) ?_
  rintro r20 r21 wE ⟨hA2, hC2⟩
  replace hE := hE.ext hC2
  replace h0 := h0.ext hC2
  replace h1 := h1.ext hC2
  replace hb0 := hb0.ext hC2
  replace hNs0 := hNs0.ext hC2
  replace hRs1 := hRs1.ext hC2
  replace hNi0 := hNi0.ext hC2
  replace hc0 := hc0.ext hC2
  replace hRi1 := hRi1.ext hC2
  obtain ⟨rfl, rfl⟩ := hA1.eq hA2
  refine cond_f (by simp) ?_
  refine cond_f (by simp) ?_
  unfold V_l_FnExactIsDistanceColouring_k3
  intro m0 hG0 _
  replace hE := hE.ext hG0
  replace h0 := h0.ext hG0
  replace h1 := h1.ext hG0
  replace hb0 := hb0.ext hG0
  replace hNs0 := hNs0.ext hG0
  replace hRs1 := hRs1.ext hG0
  replace hNi0 := hNi0.ext hG0
  replace hc0 := hc0.ext hG0
  replace hRi1 := hRi1.ext hG0
  refine LD_box3 hc0 (LD_box3 hb0 ?_)
  refine ⟨Ext.refl _, call (toNetwork_ok h0 hS0) ?_⟩
  rintro xe ye ze we0 ⟨hH0, hNe0⟩
  replace hE := hE.ext hH0
  replace h0 := h0.ext hH0
  replace h1 := h1.ext hH0
  replace hb0 := hb0.ext hH0
  replace hNs0 := hNs0.ext hH0
  replace hRs1 := hRs1.ext hH0
  replace hNi0 := hNi0.ext hH0
  replace hc0 := hc0.ext hH0
  replace hRi1 := hRi1.ext hH0
  refine ⟨hH0, call (eqNetwork_ok hNi0 hNe0) ?_⟩
  rintro _ wf0 ⟨rfl, hK0⟩
  replace hE := hE.ext hK0
  replace h0 := h0.ext hK0
  replace h1 := h1.ext hK0
  replace hb0 := hb0.ext hK0
  replace hNs0 := hNs0.ext hK0
  replace hRs1 := hRs1.ext hK0
  replace hNi0 := hNi0.ext hK0
  replace hc0 := hc0.ext hK0
  replace hRi1 := hRi1.ext hK0
  refine ⟨hH0.trans hK0, cond_f (by simp) ?_⟩
  refine call (toIntS_ok h1 hm1') ?_
  rintro se1 we1 ⟨hH1, hOe1⟩
  replace hE := hE.ext hH1
  replace h0 := h0.ext hH1
  replace h1 := h1.ext hH1
  replace hb0 := hb0.ext hH1
  replace hNs0 := hNs0.ext hH1
  replace hRs1 := hRs1.ext hH1
  replace hNi0 := hNi0.ext hH1
  replace hc0 := hc0.ext hH1
  replace hRi1 := hRi1.ext hH1
  refine call (eqIntS_ok hRi1 (hOe1.rep (flat_ok h1)).any) ?_
  rintro _ wf1 ⟨rfl, hK1⟩
  replace hE := hE.ext hK1
  replace h0 := h0.ext hK1
  replace h1 := h1.ext hK1
  replace hb0 := hb0.ext hK1
  replace hNs0 := hNs0.ext hK1
  replace hRs1 := hRs1.ext hK1
  replace hNi0 := hNi0.ext hK1
  replace hc0 := hc0.ext hK1
  replace hRi1 := hRi1.ext hK1
  refine cond_f (by simp) ?_
  exact ⟨rfl, hE⟩

end Go.Proofs.Ytoeaoinedidbiaa
