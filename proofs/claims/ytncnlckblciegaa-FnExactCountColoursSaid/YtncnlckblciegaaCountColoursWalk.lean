/- The walk of the law FnExactCountColours. -/
import Derived.Test.YtncnlckblciegaaCount
namespace Go.Proofs.Ytncnlckblciegaa
open Go.GX Go.RowKit
set_option maxRecDepth 100000

theorem fnExactCountColours_ok {w : World} {s0 : Sl} {l0 : List Int} (h0 : R w s0 l0) :
    Calls Try.prog F.l_FnExactCountColours #[s0.v] w (Ret [.at .bool] fun (x : Bool) w' => x = true ∧ Ext w w') := by
  refine C_l_FnExactCountColours ?_
  unfold V_l_FnExactCountColours
  rw [h0.len]
  refine cond_dec (fun _ => ⟨rfl, Ext.refl _⟩) (fun hm0 => ?_)
  have hm0' : l0.length ≤ 1048576 := by omega
  refine call (toIntS_ok h0 hm0') ?_
  rintro ss0 ws0 ⟨hEs0, hOs0⟩
  have hE := hEs0
  replace h0 := h0.ext hEs0
  have hRs0 := (hOs0.rep (flat_ok h0)).any
  refine call (sCountColours_ok hRs0) ?_
  rintro r10 r11 w1 ⟨hA1, hC1⟩
  replace hE := hE.ext hC1
  replace h0 := h0.ext hC1
  replace hRs0 := hRs0.ext hC1
  refine call (toIntS_ok h0 hm0') ?_
  rintro si0 wi0 ⟨hEi0, hOi0⟩
  replace hE := hE.ext hEi0
  replace h0 := h0.ext hEi0
  replace hRs0 := hRs0.ext hEi0
  have hRi0 := (hOi0.rep (flat_ok h0)).any
  refine call (CountColours_ok hRi0) ?_
  rintro r20 r21 w2 ⟨hA2, hC2⟩
  replace hE := hE.ext hC2
  replace h0 := h0.ext hC2
  replace hRs0 := hRs0.ext hC2
  replace hRi0 := hRi0.ext hC2
  obtain ⟨rfl, rfl⟩ := hA1.eq hA2
  refine cond_f (by simp) ?_
  refine cond_f (by simp) ?_
  refine call (toIntS_ok h0 hm0') ?_
  rintro se0 we0 ⟨hH0, hOe0⟩
  replace hE := hE.ext hH0
  replace h0 := h0.ext hH0
  replace hRs0 := hRs0.ext hH0
  replace hRi0 := hRi0.ext hH0
  refine call (eqIntS_ok hRi0 (hOe0.rep (flat_ok h0)).any) ?_
  rintro _ wf0 ⟨rfl, hK0⟩
  replace hE := hE.ext hK0
  replace h0 := h0.ext hK0
  replace hRs0 := hRs0.ext hK0
  replace hRi0 := hRi0.ext hK0
  refine cond_f (by simp) ?_
  exact ⟨rfl, hE⟩

end Go.Proofs.Ytncnlckblciegaa
