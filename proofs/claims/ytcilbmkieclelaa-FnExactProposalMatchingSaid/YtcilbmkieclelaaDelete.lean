/- slices.DeleteFunc at []int. -/
import Derived.Test.YtcilbmkieclelaaLib
import Derived.Test.YtcilbmkieclelaaWrite
namespace Go.Proofs.Ytcilbmkieclelaa
open Go.GX Go.RowKit
set_option maxRecDepth 100000

theorem deleteFunc_ok {w : World} {base : Nat} {s : Sl} {l : List Int} (h : OwnL w base T.t_int s l) (hok : ∀ x ∈ l, I64 x) (hl : l.length ≤ 1048576) {f : Value} {p : Int → Bool}
    (hf : ∀ x ∈ l, ∀ w', Chg w w' (oB s) → CALLV Try.prog f #[.int .i64 x] w' (Ret [.at .bool] fun (b : Bool) w'' => b = p x ∧ Ext w' w'')) :
    Calls Try.prog F.slices_DeleteFunc_sl_int_int #[s.v, f] w (Ret [.at .sl] fun (r : Sl) w' => Chg w w' (oB s) ∧ OwnL w' base T.t_int r (l.filter fun x => !p x) ∧ r.a = s.a) := by
  refine C_slices_DeleteFunc_sl_int_int ?_
  unfold V_slices_DeleteFunc_sl_int_int
  refine call (indexFuncI_ok (p := p) (h.rep hok).any (fun x hx w' hw' => hf x hx w' (Chg.of_ext hw'))) ?_
  rintro i0 w1 ⟨hi0, hE1⟩
  cases hfi : l.findIdx? p with
  | none =>
    rw [hfi] at hi0
    simp only at hi0
    subst hi0
    have hnone := List.findIdx?_eq_none_iff.1 hfi
    refine cond_t rfl ⟨.of_ext hE1, ?_, rfl⟩
    have : l.filter (fun x => !p x) = l := List.filter_eq_self.2 fun x hx => by simp [hnone x hx]
    rw [this]; exact h.ext hE1
  | some k =>
    rw [hfi] at hi0
    simp only at hi0
    subst hi0
    obtain ⟨hk, hpk, hbef⟩ := List.findIdx?_eq_some_iff_getElem.1 hfi
    refine cond_f (by simp) ?_
    have hsl := h.1
    rw [wrap_of (by omega) (by omega)]
    have hfk : (l.take (k + 1)).filter (fun x => !p x) = l.take k := by
      rw [List.take_succ_eq_append_getElem hk, List.filter_append]
      have e1 : (l.take k).filter (fun x => !p x) = l.take k := List.filter_eq_self.2 fun x hx => by
        obtain ⟨j, hj, rfl⟩ := List.mem_take_iff_getElem.1 hx
        have := hbef j (by omega)
        simpa using this
      rw [e1]; simp [hpk]
    refine ⟨fun i j w' => ∃ a b : Nat, i = a ∧ j = b ∧ a < b ∧ b ≤ l.length ∧ Chg w w' (oB s) ∧ ∃ X : List Int, OwnL w' base T.t_int s X ∧ X.length = l.length ∧ X.take a = (l.take b).filter (fun x => !p x) ∧ ((l.take b).filter fun x => !p x).length = a ∧ X.drop b = l.drop b ∧ ∀ x ∈ X, I64 x, fun _ j _ => l.length - j.toNat,
      ⟨k, k + 1, rfl, by omega, by omega, by omega, .of_ext hE1, l, h.ext hE1, rfl, hfk.symm, by rw [hfk]; simp; omega, rfl, hok⟩, ?_⟩
    rintro _ _ w2 ⟨a, b, rfl, rfl, hab, hb, hC, X, hO, hXl, hXa, hal, hXd, hXo⟩
    intros
    rw [hsl]
    refine cond_dec (fun hlt => ?_) (fun hge => ?_)
    · have hb' : b < l.length := by omega
      have hXb : X[b]'(by omega) = l[b] := by
        have h1 : (X.drop b)[0]? = (l.drop b)[0]? := by rw [hXd]
        rw [List.getElem?_drop, List.getElem?_drop] at h1
        simp [hb', hXl] at h1
        exact h1
      refine (hO.rep hXo).ixI (i := b) (by omega) fun q _ hc => LD_int hc ?_
      rw [hXb]
      refine callv (hf _ (List.getElem_mem hb') w2 hC) ?_
      rintro y w3 ⟨rfl, hE3⟩
      have hO3 := hO.ext hE3
      have hC3 := hC.trans (Chg.of_ext hE3)
      refine cond_not (fun hpf => ?_) (fun hpt => ?_)
      · refine IX_own hO3 (i := a) (by omega) rfl fun q hq => ?_
        refine ST_own hO3 (i := a) (by omega) hq l[b] rfl fun w4 hO4 hs4 => ?_
        rw [wrap_of (by omega) (by omega), wrap_of (by omega) (by omega)]
        have hfil : (l.take (b + 1)).filter (fun x => !p x) = (l.take b).filter (fun x => !p x) ++ [l[b]] := by
          rw [List.take_succ_eq_append_getElem hb', List.filter_append]; simp [hpf]
        refine ⟨⟨a + 1, b + 1, by omega, by omega, by omega, by omega, hC3.trans (.of_step hs4 fun k hk => hk), X.set a l[b], hO4, by simpa using hXl, ?_, by rw [hfil]; simp [hal], ?_, ?_⟩, by show l.length - (_ : Int).toNat < l.length - (_ : Int).toNat; omega⟩
        · rw [hfil, ← hXa, List.take_succ_eq_append_getElem (by simp; omega), List.take_set, List.set_eq_of_length_le (by simp; omega)]
          simp
        · rw [List.drop_set_of_lt (by omega)]
          have := congrArg (List.drop 1) hXd
          simpa [List.drop_drop] using this
        · intro x hx
          rcases List.mem_or_eq_of_mem_set hx with h1 | h1
          · exact hXo x h1
          · rw [h1]; exact hok _ (List.getElem_mem hb')
      · rw [wrap_of (by omega) (by omega)]
        have hfil : (l.take (b + 1)).filter (fun x => !p x) = (l.take b).filter (fun x => !p x) := by
          rw [List.take_succ_eq_append_getElem hb', List.filter_append]; simp [hpt]
        refine ⟨⟨a, b + 1, rfl, by omega, by omega, by omega, hC3, X, hO3, hXl, by rw [hfil]; exact hXa, by rw [hfil]; exact hal, ?_, hXo⟩, by show l.length - (_ : Int).toNat < l.length - (_ : Int).toNat; omega⟩
        have := congrArg (List.drop 1) hXd
        simpa [List.drop_drop] using this
    · have : b = l.length := by omega
      subst this
      rw [List.take_length] at hXa hal
      have hcap : s.len ≤ s.cap := (hO.rep hXo).2.1.1
      refine SLC_from hcap (by omega) fun d hdl hda => ?_
      refine RUN_clearI slt_int hO (i := a) (by omega) (by rw [hda (by omega)]; simp) (by omega) fun w5 hO5 hs5 => ?_
      refine SLC_to (by omega) fun y hyl hya hyc => ?_
      refine ⟨hC.trans (.of_step hs5 fun k hk => hk), ?_, hya⟩
      have := hO5.front (k := a) (by simp; omega)
      have hy : y = ⟨s.a, a, s.cap⟩ := by cases y; simp_all
      rw [hy]
      rw [List.take_append_of_le_length (by simp; omega), List.take_take, Nat.min_self, hXa] at this
      exact this

end Go.Proofs.Ytcilbmkieclelaa
