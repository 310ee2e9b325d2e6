/- The card of the law FnExactTidyText: the walk's end joined to the statement, for every input at which the listed package-level variables hold what the program's text lays. -/
import Derived.Test.YtcldmpllpfojhaaDoorRows
import Derived.Test.YtcldmpllpfojhaaDoorTie
import Derived.Test.YtcldmpllpfojhaaDoorCards
import Derived.Test.YtcldmpllpfojhaaDoorM4
import Derived.WalkKit
import Derived.ProofKit
import Derived.OpenShut
import Derived.ShutString
import Derived.ChangeOld
import Derived.Below
import Derived.SevenTiedAt
import Derived.ChangeMaps5
namespace Go.Proofs.YtcldmpllpfojhaaDoor.fnExactTidyText
open Go.ChangeShapes Go.WideShapes Go.ChangeAt Go.RowKit Go.ChangeMaps
set_option linter.unusedVariables false

theorem own : ownKnob Tryd.prog.godebug = none := by kernel_rfl
theorem plainL : (Rows.fnExactTidyTextRow.laid.all fun x => x.2.handleName?.isNone) = true := by kernel_rfl

theorem gp {W : World} (h : laidMetH Tryd.prog Rows.fnExactTidyTextRow.laid W) : GP W := by
  rw [MakeChecks.laidMetH_plain _ _ _ plainL] at h
  have hL := h
  exact tabIs_of_laid (n := 20) (d := Rows.laid_internal_strconv_uint64pow10) (by kernel_rfl) (by kernel_rfl) (laidMet_tail (laidMet_tail (hL)))

theorem gv {W : World} (h : laidMetH Tryd.prog Rows.fnExactTidyTextRow.laid W) (hs : W.ShapedOpen Tryd.prog) : GV W := by
  refine ⟨gp h, ?_, Srt.laysM145.s1_3 W hs⟩
  rw [MakeChecks.laidMetH_plain _ _ _ plainL] at h
  have hL := h
  obtain ⟨u, v, hc⟩ := iface_of_laid (name := "strconv.ErrSyntax") (g := Srt.laysC172_ren.g 15) (by kernel_rfl) (laidMet_tail (laidMet_tail (laidMet_tail (laidMet_tail (hL)))))
  exact ⟨_, hc, .inr ⟨u, v, rfl⟩⟩

set_option maxRecDepth 100000 in
theorem lifted (os : Os) (started : os.Started) (H : Type) (enc : TypeId × Value → H) :
    ReturnsInHanded {} Tryd.checked os 3 .any (fun w args => (Rows.fnExactTidyTextSpec.pre enc Tryd.prog Tryd.f3 Rows.fnExactTidyTextRow.domain false w args ∧ laidMetH Tryd.prog Rows.fnExactTidyTextRow.laid w) ∧ sizedMet enc Tryd.prog Tryd.f3 (OpenSpec.ofChange Rows.fnExactTidyTextSpec) false w args)
      (Rows.fnExactTidyTextSpec.post enc Tryd.prog Tryd.f3 false true false false) := by
  refine handed_tied (C := Tryd.checked) (X := fun w _ => laidMetH Tryd.prog Rows.fnExactTidyTextRow.laid w) (fun _ _ _ hh h => h.of_heap hh) own started (by kernel_rfl) Tryd.func3
    (ChangeSpec.witness_shaped (enc := enc) (C := Tryd.checked) (os := os) (X := fun w _ => laidMetH Tryd.prog Rows.fnExactTidyTextRow.laid w) false (World.laidAll Tryd.prog os Rows.fnExactTidyTextRow.laid) #[.string ByteArray.empty] 8 (World.laidAll_os _ _ _)
      (World.shaped_of_ZipB (by kernel_rfl) (by kernel_rfl)) (by kernel_rfl) (by kernel_rfl) (by kernel_rfl)
      (by rw [MakeChecks.laidMetH_plain _ _ _ plainL]; exact laidMet_laidAll _ (by kernel_rfl) (by kernel_rfl))) ?_
  intro W base args ds gs before hval0 hW hcnd _ hL hsh _
  have hval : ∀ (j : Nat) t v, Tryd.f3.params[j]? = some t → args[j]? = some v → Value.okWide Tryd.prog W .any base t v := hval0
  have hW' := hW
  obtain ⟨p, q, hA0, hV, rfl, hfz, hnd⟩ := hW
  have hA : DataW.TrodAll enc Tryd.prog W 0 (fun _ => true) true Tryd.f3.params.toList args.toList ds p := hA0
  rw [Tryd.params3] at hA hval
  have hA1 := hA
  obtain ⟨v0, vs0, d0, ds0, p0, q0, hargs, rfl, rfl, h0, r0⟩ := trodAll_cons hA
  obtain ⟨rfl, rfl, rfl⟩ := trodAll_nil r0
  obtain rfl : args = #[v0] := by cases args; simp_all
  obtain ⟨rfl, rfl⟩ := trodVars_none hV
  obtain ⟨a0, rfl, _, _, _⟩ := open_string (t := 9) (by kernel_rfl) (hval 0 9 v0 rfl rfl) h0
  have w0 := a0.data.toList
  clear hA0 hval0
  refine (fnExactTidyText_ok (gv hL hsh) a0.data.toList).mono fun e W' h => ?_
  obtain ⟨b, rfl, rfl, bel⟩ := Go.GX.Ret_bool h
  exact ⟨_, rfl, _, _, _, [], _, [], hW', trodAll_mk1 (shut_bool Tryd.underlying4 _), Go.GX.trodAll_stays laidOut bel _ _ _ _ (by kernel_rfl) hA1, rfl, bel.frame _, fun h => by cases h⟩

theorem facts : joinedFacts Tryd.pinned.checked.prog 3 Tryd.f3 Rows.fnExactTidyTextSpec Rows.fnExactTidyTextRow = true := by
  simp only [joinedFacts, door_enters, door_lifts, door_heard, door_laid, door_maps]
  kernel_rfl

theorem over : Rows.fnExactTidyTextRow.holds Tryd.pinned (OpenSpec.ofChange Rows.fnExactTidyTextSpec) :=
  OpenClaim.holds_of_wide 3 Tryd.f3 rfl rfl rfl rfl rfl rfl rfl ⟨rfl, rfl, rfl, rfl, rfl⟩ rfl rfl rfl rfl rfl (by kernel_rfl) Tryd.func3 facts
    (of_decide_eq_true (by kernel_rfl)) (by unfold Func.isWrapper; first | (rw [if_pos (by decide +kernel)]; kernel_rfl) | (rw [if_neg (by decide +kernel)]; exact ⟨rfl, rfl⟩))
    (fun os started H enc _ => lifted os started H enc)

theorem proved : Rows.FnExactTidyTextCardSaid :=
  Claim7.holds_tied_plain_at .later [] [.data, .data, .data, .sentinel, .sentinel] true (true, "ec418f76eddfb459a1062f1727542bc48bd7483b28a6bebcce9c85cd31f9479f") true
    over (fun _ h => by cases h) (by kernel_rfl) (fun _ h => by cases h) fnExactTidyText_row_tie rfl ⟨rfl, rfl⟩ (by kernel_rfl) rfl
    (fun f fn hf hfn => by
      obtain rfl : f = 3 := Option.some.inj ((show Tryd.prog.funcNamed "loop.example/g01084/laws.FnExactTidyText" = some 3 by kernel_rfl).symm.trans hf) |>.symm
      obtain rfl : fn = Tryd.f3 := (Option.some.inj (Tryd.func3.symm.trans hfn)).symm
      exact ⟨by kernel_rfl, fun j t ht => by
        rw [Tryd.params3] at ht
        have hm : t ∈ [9] := by simpa using Array.mem_of_getElem? ht
        have hall : ([9].all fun u => !Tryd.prog.wantsStandIn u) = true := by kernel_rfl
        exact (show Tryd.prog.wantsStandIn t = false by simpa using List.all_eq_true.1 hall t hm)⟩)
    (by kernel_rfl)
end Go.Proofs.YtcldmpllpfojhaaDoor.fnExactTidyText
