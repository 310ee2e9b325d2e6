/- The card of the law FnExactSolveCycle: the walk's end joined to the statement, for every input at which the listed package-level variables hold what the program's text lays. -/
import Derived.Test.YtaeledhbkdakcaaGreatDoorRows
import Derived.Test.YtaeledhbkdakcaaGreatDoorTie
import Derived.Test.YtaeledhbkdakcaaGreatDoorCards
import Derived.Test.YtaeledhbkdakcaaGreatDoorM5
import Derived.WalkKit
import Derived.ProofKit
import Derived.OpenShut
import Derived.ShutString
import Derived.ChangeOld
import Derived.Below
import Derived.SevenTiedAt
import Derived.ChangeMaps5
namespace Go.Proofs.YtaeledhbkdakcaaGreatDoor.fnExactSolveCycle
open Go.ChangeShapes Go.WideShapes Go.ChangeAt Go.RowKit Go.ChangeMaps
set_option linter.unusedVariables false

theorem own : ownKnob Tryz.prog.godebug = none := by kernel_rfl
theorem plainL : (Rows.fnExactSolveCycleRow.laid.all fun x => x.2.handleName?.isNone) = true := by kernel_rfl

theorem gt {W : World} (h : laidMetH Tryz.prog Rows.fnExactSolveCycleRow.laid W) : GT W := by
  rw [MakeChecks.laidMetH_plain _ _ _ plainL] at h
  have hL := h
  have hT := tabIs_of_laid (n := 64) (k := .u8) (zs := Go.Lib.deBruijn64tab.map fun (x : Nat) => (x : Int)) (d := Rows.laid_math_bits_deBruijn64tab) (by kernel_rfl) (by kernel_rfl) (hL)
  intro j hj
  have hc := World.var?_cell (g := Srt.lays729_ren.g 1) (by kernel_rfl) hT j
  rw [hc, List.getElem?_toArray, List.getElem?_map, List.getElem?_map, List.getElem?_eq_getElem hj, List.getD_eq_getElem?_getD, List.getElem?_eq_getElem hj]
  rfl

set_option maxRecDepth 100000 in
theorem lifted (os : Os) (started : os.Started) (H : Type) (enc : TypeId × Value → H) :
    ReturnsInHanded {} Tryz.checked os 3 .any (fun w args => (Rows.fnExactSolveCycleSpec.pre enc Tryz.prog Tryz.f3 Rows.fnExactSolveCycleRow.domain false w args ∧ laidMetH Tryz.prog Rows.fnExactSolveCycleRow.laid w) ∧ sizedMet enc Tryz.prog Tryz.f3 (OpenSpec.ofChange Rows.fnExactSolveCycleSpec) false w args)
      (Rows.fnExactSolveCycleSpec.post enc Tryz.prog Tryz.f3 false true false false) := by
  refine handed_tied (C := Tryz.checked) (X := fun w _ => laidMetH Tryz.prog Rows.fnExactSolveCycleRow.laid w) (fun _ _ _ hh h => h.of_heap hh) own started (by kernel_rfl) Tryz.func3
    (ChangeSpec.witness_shaped (enc := enc) (C := Tryz.checked) (os := os) (X := fun w _ => laidMetH Tryz.prog Rows.fnExactSolveCycleRow.laid w) false (World.laidAll Tryz.prog os Rows.fnExactSolveCycleRow.laid) #[.agg #[.int .i64 0, .slice none 0 0], .slice none 0 0] 8 (World.laidAll_os _ _ _)
      (World.shaped_of_ZipB (by kernel_rfl) (by kernel_rfl)) (by kernel_rfl) (by kernel_rfl) (by kernel_rfl)
      (by rw [MakeChecks.laidMetH_plain _ _ _ plainL]; exact laidMet_laidAll _ (by kernel_rfl) (by kernel_rfl))) ?_
  intro W base args ds gs before hval0 hW hcnd _ hL hsh _
  have hval : ∀ (j : Nat) t v, Tryz.f3.params[j]? = some t → args[j]? = some v → Value.okWide Tryz.prog W .any base t v := hval0
  have hW' := hW
  obtain ⟨p, q, hA0, hV, rfl, hfz, hnd⟩ := hW
  have hA : DataW.TrodAll enc Tryz.prog W 0 (fun _ => true) true Tryz.f3.params.toList args.toList ds p := hA0
  rw [Tryz.params3] at hA hval
  have hA1 := hA
  obtain ⟨v0, vs0, d0, ds0, p0, q0, hargs, rfl, rfl, h0, r0⟩ := trodAll_cons hA
  obtain ⟨v1, vs1, d1, ds1, p1, q1, rfl, rfl, rfl, h1, r1⟩ := trodAll_cons r0
  obtain ⟨rfl, rfl, rfl⟩ := trodAll_nil r1
  obtain rfl : args = #[v0, v1] := by cases args; simp_all
  obtain ⟨rfl, rfl⟩ := trodVars_none hV
  obtain ⟨c0, q0, rfl, w0⟩ := open_K (hval 0 24 v0 rfl rfl) h0
  obtain ⟨s1, l1, rfl, w1⟩ := open_L (hval 1 25 v1 rfl rfl) h1
  clear hA0 hval0
  refine (fnExactSolveCycle_ok (gt hL) w0 w1).mono fun e W' h => ?_
  obtain ⟨b, rfl, rfl, bel⟩ := Go.GX.Ret_bool h
  exact ⟨_, rfl, _, _, _, [], _, [], hW', trodAll_mk1 (shut_bool Tryz.underlying4 _), Go.GX.trodAll_stays laidOut bel _ _ _ _ (by kernel_rfl) hA1, rfl, bel.frame _, fun h => by cases h⟩

theorem facts : joinedFacts Tryz.pinned.checked.prog 3 Tryz.f3 Rows.fnExactSolveCycleSpec Rows.fnExactSolveCycleRow = true := by
  simp only [joinedFacts, door_enters, door_lifts, door_heard, door_laid, door_maps]
  kernel_rfl

theorem over : Rows.fnExactSolveCycleRow.holds Tryz.pinned (OpenSpec.ofChange Rows.fnExactSolveCycleSpec) :=
  OpenClaim.holds_of_wide 3 Tryz.f3 rfl rfl rfl rfl rfl rfl rfl ⟨rfl, rfl, rfl, rfl, rfl⟩ rfl rfl rfl rfl rfl (by kernel_rfl) Tryz.func3 facts
    (of_decide_eq_true (by kernel_rfl)) (by unfold Func.isWrapper; first | (rw [if_pos (by decide +kernel)]; kernel_rfl) | (rw [if_neg (by decide +kernel)]; exact ⟨rfl, rfl⟩))
    (fun os started H enc _ => lifted os started H enc)

theorem proved : Rows.FnExactSolveCycleCardSaid :=
  Claim7.holds_tied_plain_at .later [] [.data] true (true, "1c9c821d8be9980fd597ea2997dffa2477eb51758e4c5c929b84c3d80f854d10") true
    over (fun _ h => by cases h) (by kernel_rfl) (fun _ h => by cases h) fnExactSolveCycle_row_tie rfl ⟨rfl, rfl⟩ (by kernel_rfl) rfl
    (fun f fn hf hfn => by
      obtain rfl : f = 3 := Option.some.inj ((show Tryz.prog.funcNamed "loop.example/g01084/laws.FnExactSolveCycle" = some 3 by kernel_rfl).symm.trans hf) |>.symm
      obtain rfl : fn = Tryz.f3 := (Option.some.inj (Tryz.func3.symm.trans hfn)).symm
      exact ⟨by kernel_rfl, fun j t ht => by
        rw [Tryz.params3] at ht
        have hm : t ∈ [24, 25] := by simpa using Array.mem_of_getElem? ht
        have hall : ([24, 25].all fun u => !Tryz.prog.wantsStandIn u) = true := by kernel_rfl
        exact (show Tryz.prog.wantsStandIn t = false by simpa using List.all_eq_true.1 hall t hm)⟩)
    (by kernel_rfl)
end Go.Proofs.YtaeledhbkdakcaaGreatDoor.fnExactSolveCycle
