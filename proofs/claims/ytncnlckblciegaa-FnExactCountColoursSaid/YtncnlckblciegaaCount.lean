/- CountColours, on both sides. -/
import Derived.Test.YtncnlckblciegaaMax
import Derived.Test.YtncnlckblciegaaCompact
namespace Go.Proofs.Ytncnlckblciegaa
open Go.GX Go.RowKit
set_option maxRecDepth 100000

theorem CountColours_ok {w : World} {s : Sl} {l : List Int} (h : R w s l) :
    Calls Try.prog F.i_CountColours #[s.v] w (Ret [.at (.int .i64), .at .bool] fun (x : Int) (y : Bool) w' => AnsI (l.length ≤ 40) (firstsTo l l.length).length x y ∧ Ext w w') := by
  refine C_i_CountColours ?_
  unfold V_i_CountColours
  have hsl := h.1
  rw [hsl]
  refine cond_dec (fun hg => ⟨AnsI.no (by omega), Ext.refl _⟩) (fun hg => ?_)
  have hl : l.length ≤ 40 := by omega
  have hok := flat_ok h
  refine values_ok fun w1 hE1 hc1 => ?_
  refine call (sorted_ok hc1 (h.ext hE1) (by omega)) ?_
  rintro r w2 ⟨hE2, hO2⟩
  refine call (compact_ok hO2 (sortI_I64 hok) (by rw [sortI_len]; omega)) ?_
  rintro r3 w3 ⟨hC3, hO3, _⟩
  refine ⟨?_, ?_⟩
  · rw [hO3.1, count_eq (sortI_perm l) (sortI_sorted l)]
    exact AnsI.mk hl rfl
  · exact hC3.ext0 (hE1.trans hE2) (fun k hk => by have := (hO2.blk k hk).1; have := hE1.size; omega)

theorem sCountColours_ok {w : World} {s : Sl} {l : List Int} (h : R w s l) :
    Calls Try.prog F.s_CountColours #[s.v] w (Ret [.at (.int .i64), .at .bool] fun (x : Int) (y : Bool) w' => AnsI (l.length ≤ 40) (firstsTo l l.length).length x y ∧ Ext w w') := by
  refine C_s_CountColours ?_
  unfold V_s_CountColours
  have hsl := h.1
  rw [hsl]
  refine cond_dec (fun hg => ⟨AnsI.no (by omega), Ext.refl _⟩) (fun hg => ?_)
  have hl : l.length ≤ 40 := by omega
  refine ⟨fun c i w' => ∃ k : Nat, i = k ∧ k ≤ l.length ∧ c = (firstsTo l k).length ∧ (firstsTo l k).length ≤ k ∧ w' = w, fun _ i _ => l.length - i.toNat, ⟨0, rfl, by omega, rfl, by simp [firstsTo], rfl⟩, ?_⟩
  rintro _ _ _ ⟨k, rfl, hk, rfl, hle, rfl⟩
  intros
  refine cond_dec (fun hlt => ?_) (fun hge => ?_)
  · have hk' : k < l.length := by omega
    refine h.ixI (i := k) hk' fun q _ hc => LD_int hc ?_
    refine h.take (by omega) rfl fun s' hs' => ?_
    refine call (l1Has_ok hs' _) ?_
    rintro b _ ⟨rfl, rfl⟩
    refine cond_not (fun hf => ?_) (fun ht => ?_)
    · have : l[k] ∉ l.take k := by simpa using hf
      have e : firstsTo l (k + 1) = firstsTo l k ++ [l[k]] := by rw [firstsTo, getD_eq hk', if_neg this]
      rw [wrap_of (by omega) (by omega), wrap_of (by omega) (by omega)]
      exact ⟨⟨k + 1, by omega, by omega, by rw [e]; simp, by rw [e]; simp; omega, rfl⟩, by show l.length - (_ : Int).toNat < l.length - (_ : Int).toNat; omega⟩
    · have : l[k] ∈ l.take k := by simpa using ht
      have e : firstsTo l (k + 1) = firstsTo l k := by rw [firstsTo, getD_eq hk', if_pos this, List.append_nil]
      rw [wrap_of (by omega) (by omega)]
      exact ⟨⟨k + 1, by omega, by omega, by rw [e], by rw [e]; omega, rfl⟩, by show l.length - (_ : Int).toNat < l.length - (_ : Int).toNat; omega⟩
  · have : k = l.length := by omega
    subst this
    exact ⟨AnsI.mk hl rfl, Ext.refl _⟩

end Go.Proofs.Ytncnlckblciegaa
