/- The card of the law FnExactGreatestMatching: the walk's end joined to the statement, for every input at which the listed package-level variables hold what the program's text lays. -/
import Derived.Test.YtaeledhbkdakcaaDoorRows
import Derived.Test.YtaeledhbkdakcaaDoorTie
import Derived.Test.YtaeledhbkdakcaaDoorCards
import Derived.Test.YtaeledhbkdakcaaDoorM3
import Derived.WalkKit
import Derived.ProofKit
import Derived.OpenShut
import Derived.ShutString
import Derived.ChangeOld
import Derived.Below
import Derived.SevenTiedAt
import Derived.ChangeMaps5
namespace Go.Proofs.YtaeledhbkdakcaaDoor.fnExactGreatestMatching
open Go.ChangeShapes Go.WideShapes Go.ChangeAt Go.RowKit Go.ChangeMaps
set_option linter.unusedVariables false

theorem own : ownKnob Tryd.prog.godebug = none := by kernel_rfl
theorem plainL : (Rows.fnExactGreatestMatchingRow.laid.all fun x => x.2.handleName?.isNone) = true := by kernel_rfl

theorem gt {W : World} (h : laidMetH Tryd.prog Rows.fnExactGreatestMatchingRow.laid W) : GT W := by
  rw [MakeChecks.laidMetH_plain _ _ _ plainL] at h
  have hL := h
  have hT := tabIs_of_laid (n := 64) (k := .u8) (zs := Go.Lib.deBruijn64tab.map fun (x : Nat) => (x : Int)) (d := Rows.laid_math_bits_deBruijn64tab) (by kernel_rfl) (by kernel_rfl) (laidMet_tail (hL))
  intro j hj
  have hc := World.var?_cell (g := Srt.lays727_ren.g 1) (by kernel_rfl) hT j
  rw [hc, List.getElem?_toArray, List.getElem?_map, List.getElem?_map, List.getElem?_eq_getElem hj, List.getD_eq_getElem?_getD, List.getElem?_eq_getElem hj]
  rfl

set_option maxRecDepth 100000 in
theorem lifted (os : Os) (started : os.Started) (H : Type) (enc : TypeId × Value → H) :
    ReturnsInHanded {} Tryd.checked os 3 .any (fun w args => (Rows.fnExactGreatestMatchingSpec.pre enc Tryd.prog Tryd.f3 Rows.fnExactGreatestMatchingRow.domain false w args ∧ laidMetH Tryd.prog Rows.fnExactGreatestMatchingRow.laid w) ∧ sizedMet enc Tryd.prog Tryd.f3 (OpenSpec.ofChange Rows.fnExactGreatestMatchingSpec) false w args)
      (Rows.fnExactGreatestMatchingSpec.post enc Tryd.prog Tryd.f3 false true false false) := by
  refine handed_tied (C := Tryd.checked) (X := fun w _ => laidMetH Tryd.prog Rows.fnExactGreatestMatchingRow.laid w) (fun _ _ _ hh h => h.of_heap hh) own started (by kernel_rfl) Tryd.func3
    (ChangeSpec.witness_shaped (enc := enc) (C := Tryd.checked) (os := os) (X := fun w _ => laidMetH Tryd.prog Rows.fnExactGreatestMatchingRow.laid w) false (World.laidAll Tryd.prog os Rows.fnExactGreatestMatchingRow.laid) #[.agg #[.slice none 0 0, .slice none 0 0, .slice none 0 0]] 8 (World.laidAll_os _ _ _)
      (World.shaped_of_ZipB (by kernel_rfl) (by kernel_rfl)) (by kernel_rfl) (by kernel_rfl) (by kernel_rfl)
      (by rw [MakeChecks.laidMetH_plain _ _ _ plainL]; exact laidMet_laidAll _ (by kernel_rfl) (by kernel_rfl))) ?_
  intro W base args ds gs before hval0 hW hcnd _ hL hsh _
  have hval : ∀ (j : Nat) t v, Tryd.f3.params[j]? = some t → args[j]? = some v → Value.okWide Tryd.prog W .any base t v := hval0
  have hW' := hW
  obtain ⟨p, q, hA0, hV, rfl, hfz, hnd⟩ := hW
  have hA : DataW.TrodAll enc Tryd.prog W 0 (fun _ => true) true Tryd.f3.params.toList args.toList ds p := hA0
  rw [Tryd.params3] at hA hval
  have hA1 := hA
  obtain ⟨v0, vs0, d0, ds0, p0, q0, hargs, rfl, rfl, h0, r0⟩ := trodAll_cons hA
  obtain ⟨rfl, rfl, rfl⟩ := trodAll_nil r0
  obtain rfl : args = #[v0] := by cases args; simp_all
  obtain ⟨rfl, rfl⟩ := trodVars_none hV
  obtain ⟨a0, b0, c0, n0, rfl, w0⟩ := open_N (hval 0 25 v0 rfl rfl) h0
  clear hA0 hval0
  refine (fnExactGreatestMatching_ok (gt hL) w0).mono fun e W' h => ?_
  obtain ⟨b, rfl, rfl, bel⟩ := Go.GX.Ret_bool h
  exact ⟨_, rfl, _, _, _, [], _, [], hW', trodAll_mk1 (shut_bool Tryd.underlying4 _), Go.GX.trodAll_stays laidOut bel _ _ _ _ (by kernel_rfl) hA1, rfl, bel.frame _, fun h => by cases h⟩

theorem facts : joinedFacts Tryd.pinned.checked.prog 3 Tryd.f3 Rows.fnExactGreatestMatchingSpec Rows.fnExactGreatestMatchingRow = true := by
  simp only [joinedFacts, door_enters, door_lifts, door_heard, door_laid, door_maps]
  kernel_rfl

theorem over : Rows.fnExactGreatestMatchingRow.holds Tryd.pinned (OpenSpec.ofChange Rows.fnExactGreatestMatchingSpec) :=
  OpenClaim.holds_of_wide 3 Tryd.f3 rfl rfl rfl rfl rfl rfl rfl ⟨rfl, rfl, rfl, rfl, rfl⟩ rfl rfl rfl rfl rfl (by kernel_rfl) Tryd.func3 facts
    (of_decide_eq_true (by kernel_rfl)) (by unfold Func.isWrapper; first | (rw [if_pos (by decide +kernel)]; kernel_rfl) | (rw [if_neg (by decide +kernel)]; exact ⟨rfl, rfl⟩))
    (fun os started H enc _ => lifted os started H enc)

theorem proved : Rows.FnExactGreatestMatchingCardSaid :=
  Claim7.holds_tied_plain_at .later [] [.data, .data] true (true, "1b4bc4a4609e5b4477e7570e13baa08a1580bf33effcd026ddf95c69f923cc2c") true
    over (fun _ h => by cases h) (by kernel_rfl) (fun _ h => by cases h) fnExactGreatestMatching_row_tie rfl ⟨rfl, rfl⟩ (by kernel_rfl) rfl
    (fun f fn hf hfn => by
      obtain rfl : f = 3 := Option.some.inj ((show Tryd.prog.funcNamed "loop.example/g01084/laws.FnExactGreatestMatching" = some 3 by kernel_rfl).symm.trans hf) |>.symm
      obtain rfl : fn = Tryd.f3 := (Option.some.inj (Tryd.func3.symm.trans hfn)).symm
      exact ⟨by kernel_rfl, fun j t ht => by
        rw [Tryd.params3] at ht
        have hm : t ∈ [25] := by simpa using Array.mem_of_getElem? ht
        have hall : ([25].all fun u => !Tryd.prog.wantsStandIn u) = true := by kernel_rfl
        exact (show Tryd.prog.wantsStandIn t = false by simpa using List.all_eq_true.1 hall t hm)⟩)
    (by kernel_rfl)
end Go.Proofs.YtaeledhbkdakcaaDoor.fnExactGreatestMatching
