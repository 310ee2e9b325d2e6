/- The walk of the law FnExactColourByIds. -/
import Derived.Test.YtoeaoinedidbiaaGreatByIds
import Derived.Test.YtoeaoinedidbiaaGreatMark
namespace Go.Proofs.YtoeaoinedidbiaaGreat
open Go.GX Go.RowKit
set_option maxRecDepth 100000

theorem fnExactColourByIds_ok {w : World} {a0 b0 c0 : Sl} {n0 : Net} {d1 : Int} (h0 : RNet w a0 b0 c0 n0) (h1 : I64 d1) :
    Calls Tryz.prog F.l_FnExactColourByIds #[.agg #[a0.v, b0.v, c0.v], .int .i64 d1] w (Ret [.at .bool] fun (x : Bool) w' => x = true ∧ Ext w w') := by
  refine C_l_FnExactColourByIds ?_
  unfold V_l_FnExactColourByIds
  refine NEW_intro fun p0 u0 hp0 hs0 hA0 hb0 => ?_
  have hE := hA0
  replace h0 := h0.ext hA0
  refine LD_box3 hb0 ?_
  refine call (szNetwork_le h0) ?_
  rintro z0 x0 ⟨hz0, hB0⟩
  replace hE := hE.ext hB0
  replace h0 := h0.ext hB0
  replace hb0 := hb0.ext hB0
  refine cond_dec (fun _ => ⟨rfl, hE⟩) (fun hzl0 => ?_)
  have hS0 := (hz0 (by omega)).1
  have hzz0 := (hz0 (by omega)).2
  refine LD_box3 hb0 ?_
  refine call (toNetwork_ok h0 hS0) ?_
  rintro xs0 ys0 zs0 ws0 ⟨hEs0, hNs0⟩
  replace hE := hE.ext hEs0
  replace h0 := h0.ext hEs0
  replace hb0 := hb0.ext hEs0
  refine call (sColourByIds_ok hNs0 h1) ?_
  rintro r10 r11 r12 wA ⟨hCA, r1L0, hL10, hA1⟩
  replace hE := hE.ext hCA
  replace h0 := h0.ext hCA
  replace hb0 := hb0.ext hCA
  replace hNs0 := hNs0.ext hCA
  have hX := Ext.refl wA
  refine LD_box3 (hb0.ext hX) ?_
  have hlo0 := hX.size_le
  refine call (toNetwork_own (h0.ext hX) hS0) ?_
  rintro xi0 yi0 zi0 wi0 ⟨hEi0, hON0⟩
  replace hX := hX.ext hEi0
  have hM0 := hON0.mnet hS0
  have hNi0 := hON0.net h0
  have hH0 := Ext.refl wi0
  refine NEW_ST (one3 _ _ _) rfl fun qi0 vi0 hqi0 hFi0 hc0 => ?_
  replace hX := hX.ext hFi0
  replace hM0 := hM0.ext hFi0
  replace hNi0 := hNi0.ext hFi0
  replace hH0 := hH0.ext hFi0
  refine LD_box3 hc0 ?_
  have hhi0 := hH0.size_le
  have hXD := hX.size_le
  refine call (ColourByIds_ok hNi0 h1 hS0) ?_
  rintro r20 r21 r22 wE ⟨hCE, r2L0, hG20, hA2⟩
  replace hX := hX.ext hCE
  replace hM0 := hM0.ext hCE
  replace hNi0 := hNi0.ext hCE
  replace hH0 := hH0.ext hCE
  replace hc0 := hc0.ext hCE
  obtain ⟨hpr, rfl⟩ := hA1.eq hA2
  simp only [Prod.mk.injEq] at hpr
  obtain ⟨rfl, rfl⟩ := hpr
  refine call (eqIntS_ok hG20.rep (hL10.ext hX)) ?_
  rintro _ we1 ⟨rfl, hK⟩
  replace hX := hX.ext hK
  replace hM0 := hM0.ext hK
  replace hNi0 := hNi0.ext hK
  replace hH0 := hH0.ext hK
  replace hc0 := hc0.ext hK
  replace hG20 := hG20.ext hK
  refine cond_f (by simp) ?_
  refine cond_f (by simp) ?_
  refine cond_f (by simp) ?_
  unfold V_l_FnExactColourByIds_k2
  intro m0 hG0 _
  replace hX := hX.ext hG0
  replace hM0 := hM0.ext hG0
  replace hNi0 := hNi0.ext hG0
  replace hH0 := hH0.ext hG0
  replace hc0 := hc0.ext hG0
  replace hG20 := hG20.ext hG0
  refine LD_box3 hc0 (LD_box3 (hb0.ext hX) ?_)
  refine ⟨Ext.refl _, call (toNetwork_ok (h0.ext hX) hS0) ?_⟩
  rintro xe0 ye0 ze0 we0' ⟨hHe0, hNe0⟩
  replace hX := hX.ext hHe0
  replace hM0 := hM0.ext hHe0
  replace hNi0 := hNi0.ext hHe0
  replace hH0 := hH0.ext hHe0
  replace hc0 := hc0.ext hHe0
  replace hG20 := hG20.ext hHe0
  refine ⟨hHe0, call (eqNetwork_ok hNi0 hNe0) ?_⟩
  rintro _ wf0 ⟨rfl, hK0⟩
  replace hX := hX.ext hK0
  replace hM0 := hM0.ext hK0
  replace hNi0 := hNi0.ext hK0
  replace hH0 := hH0.ext hK0
  replace hc0 := hc0.ext hK0
  replace hG20 := hG20.ext hK0
  refine ⟨hHe0.trans hK0, cond_f (by simp) ?_⟩
  refine LD_box3 hc0 ?_
  refine call (markNetwork_ok hM0 hH0.size_le) ?_
  rintro k0 wm0 ⟨hk0, hkk0, hSh, hCh⟩
  replace hX := hCh.extR hX (by omega)
  replace hG20 := hG20.chgR hCh (by omega)
  refine cond_df (by omega) ?_
  refine call (eqIntS_ok hG20.rep (hL10.ext hX)) ?_
  rintro _ we2 ⟨rfl, hK⟩
  replace hX := hX.ext hK
  replace hG20 := hG20.ext hK
  refine cond_f (by simp) ?_
  refine cond_f (by simp) ?_
  refine cond_f (by simp) ?_
  unfold V_l_FnExactColourByIds_k5
  have hl0 := hG20.small
  refine call (markIntS_out hG20 1 (by omega) (by omega)) ?_
  rintro mk0 wg0 ⟨hmk0, hMk0, hSt⟩
  replace hX := hSt.extB hX (by omega)
  refine call (heldIntS_ok 1 hMk0 (by omega) (by omega) hl0) ?_
  rintro _ _ ⟨rfl, rfl⟩
  refine cond_df (by omega) ?_
  refine cond_f (by simp [hmk0]) ?_
  refine LD_box3 (hb0.ext hX) ?_
  refine call (toNetwork_ok (h0.ext hX) hS0) ?_
  rintro xj0 yj0 zj0 wj0 ⟨hEj0, hNj0⟩
  replace hX := hX.ext hEj0
  replace hMk0 := hMk0.ext hEj0
  refine call (ColourByIds_ok hNj0 h1 hS0) ?_
  rintro r30 r31 r32 wH ⟨hCH, r3L0, hG30, hA3⟩
  replace hX := hX.ext hCH
  replace hMk0 := hMk0.ext hCH
  replace hNj0 := hNj0.ext hCH
  obtain ⟨hpr, rfl⟩ := hA1.eq hA3
  simp only [Prod.mk.injEq] at hpr
  obtain ⟨rfl, rfl⟩ := hpr
  refine call (eqIntS_ok hG30.rep (hL10.ext hX)) ?_
  rintro _ we3 ⟨rfl, hK⟩
  replace hX := hX.ext hK
  replace hMk0 := hMk0.ext hK
  replace hNj0 := hNj0.ext hK
  replace hG30 := hG30.ext hK
  refine cond_f (by simp) ?_
  refine cond_f (by simp) ?_
  refine cond_f (by simp) ?_
  refine call (heldIntS_ok 1 hMk0 (by omega) (by omega) hl0) ?_
  rintro _ _ ⟨rfl, rfl⟩
  refine cond_df (by omega) ?_
  refine cond_f (by simp [hmk0]) ?_
  exact ⟨rfl, hE.trans hX⟩

end Go.Proofs.YtoeaoinedidbiaaGreat
