/- slices.Compact at []int; the number of different elements of a list. -/
import Derived.Test.YtncnlckblciegaaOrder
import Derived.Test.YtncnlckblciegaaDelete
import Derived.Test.YtncnlckblciegaaSorted
namespace Go.Proofs.Ytncnlckblciegaa
open Go.GX Go.RowKit
set_option maxRecDepth 100000

/-- What slices.Compact keeps of the first b elements. -/
def compTo (l : List Int) : Nat → List Int
  | 0 => []
  | b + 1 => compTo l b ++ (if b = 0 ∨ l.getD b 0 ≠ l.getD (b - 1) 0 then [l.getD b 0] else [])

/-- The first occurrences among the first b elements. -/
def firstsTo (l : List Int) : Nat → List Int
  | 0 => []
  | b + 1 => firstsTo l b ++ (if l.getD b 0 ∈ l.take b then [] else [l.getD b 0])

theorem mem_take_succ {l : List Int} {b : Nat} (hb : b < l.length) {x : Int} : x ∈ l.take (b + 1) ↔ x ∈ l.take b ∨ x = l.getD b 0 := by
  rw [List.take_succ_eq_append_getElem hb, List.mem_append, List.mem_singleton, List.getD_eq_getElem?_getD, List.getElem?_eq_getElem hb]; rfl

theorem firstsTo_mem {l : List Int} : ∀ {b : Nat}, b ≤ l.length → ∀ x, x ∈ firstsTo l b ↔ x ∈ l.take b
  | 0, _, x => by simp [firstsTo]
  | b + 1, hb, x => by
    rw [mem_take_succ (by omega), firstsTo, List.mem_append, firstsTo_mem (by omega)]
    split
    · rename_i h
      constructor
      · rintro (h1 | h1)
        · exact .inl h1
        · simp at h1
      · rintro (h1 | rfl)
        · exact .inl h1
        · exact .inl h
    · simp

theorem firstsTo_nodup {l : List Int} : ∀ {b : Nat}, b ≤ l.length → (firstsTo l b).Nodup
  | 0, _ => by simp [firstsTo]
  | b + 1, hb => by
    rw [firstsTo]
    split
    · simpa using firstsTo_nodup (l := l) (b := b) (by omega)
    · rename_i h
      refine List.nodup_append.2 ⟨firstsTo_nodup (by omega), by simp, ?_⟩
      intro x hx y hy e
      simp at hy
      subst e; subst hy
      exact h ((firstsTo_mem (by omega) _).1 hx)

theorem compTo_mem {l : List Int} : ∀ {b : Nat}, b ≤ l.length → ∀ x, x ∈ compTo l b ↔ x ∈ l.take b
  | 0, _, x => by simp [compTo]
  | b + 1, hb, x => by
    rw [mem_take_succ (by omega), compTo, List.mem_append, compTo_mem (by omega)]
    split
    · simp
    · rename_i h
      simp only [not_or, Decidable.not_not] at h
      constructor
      · rintro (h1 | h1)
        · exact .inl h1
        · simp at h1
      · rintro (h1 | rfl)
        · exact .inl h1
        · left
          rw [h.2, List.getD_eq_getElem?_getD, List.getElem?_eq_getElem (by omega)]
          exact List.mem_take_iff_getElem.2 ⟨b - 1, by omega, rfl⟩

theorem compTo_sorted {l : List Int} (hs : l.Pairwise (· ≤ ·)) : ∀ {b : Nat}, b ≤ l.length → (compTo l b).Pairwise (· < ·)
  | 0, _ => by simp [compTo]
  | b + 1, hb => by
    rw [compTo]
    split
    · rename_i h
      refine List.pairwise_append.2 ⟨compTo_sorted hs (by omega), by simp, ?_⟩
      intro x hx y hy
      simp at hy
      subst hy
      obtain ⟨j, hj, rfl⟩ := List.mem_take_iff_getElem.1 ((compTo_mem (by omega) _).1 hx)
      have hb' : b < l.length := by omega
      have hj' : j < b := by omega
      rcases h with h | h
      · omega
      · rw [List.getD_eq_getElem?_getD, List.getElem?_eq_getElem hb', List.getD_eq_getElem?_getD, List.getElem?_eq_getElem (by omega)] at h
        simp only [Option.getD_some] at h
        rw [List.getElem?_eq_getElem hb', Option.getD_some]
        have h1 : l[b - 1] ≤ l[b] := List.pairwise_iff_getElem.1 hs _ _ _ _ (by omega)
        have h2 : l[j] ≤ l[b - 1] := by
          by_cases e : j = b - 1
          · subst e; exact Int.le_refl _
          · exact List.pairwise_iff_getElem.1 hs _ _ _ _ (by omega)
        omega
    · simpa using compTo_sorted hs (b := b) (by omega)

theorem count_eq {l m : List Int} (hp : m.Perm l) (hs : m.Pairwise (· ≤ ·)) : (compTo m m.length).length = (firstsTo l l.length).length := by
  refine List.Perm.length_eq ?_
  refine (List.perm_ext_iff_of_nodup ?_ (firstsTo_nodup (Nat.le_refl _))).2 fun x => ?_
  · exact (compTo_sorted hs (Nat.le_refl _)).imp fun h e => by omega
  · rw [compTo_mem (Nat.le_refl _), firstsTo_mem (Nat.le_refl _), List.take_length, List.take_length]
    exact hp.mem_iff

theorem slr_sub {α : Type} [RepP α] {D : Nat → Prop} {w : World} {s d : Sl} {l : List α} (h : SlR D w s l) {i : Nat} (hi : i ≤ l.length) (hd : d.len = s.len - i) (hc : d.cap = s.cap - i) (ha : i < s.len → d.a = s.a.map (·.add (i * Rep.sz α))) : SlR D w d (l.drop i) := by
  have h1 := h.1
  have h2 := h.2.1
  refine ⟨by simp; omega, by omega, fun j x hx => ?_⟩
  rw [List.getElem?_drop] at hx
  have hlt := (List.getElem?_eq_some_iff.1 hx).1
  obtain ⟨a, cs, e1, e2, e3, e4⟩ := h.2.2 (i + j) x hx
  refine ⟨a.add (i * Rep.sz α), cs, by rw [ha (by omega), e1]; rfl, by rw [add_block]; exact e2, e3, fun t v ht => ?_⟩
  rw [add_add, show i * Rep.sz α + (j * Rep.sz α + t) = (i + j) * Rep.sz α + t by rw [Nat.add_mul]; omega]
  exact e4 t v ht

theorem getD_eq {l : List Int} {i : Nat} (hi : i < l.length) : l.getD i 0 = l[i] := by
  rw [List.getD_eq_getElem?_getD, List.getElem?_eq_getElem hi]; rfl

theorem compact_ok {w : World} {base : Nat} {s : Sl} {l : List Int} (h : OwnL w base T.t_int s l) (hok : ∀ x ∈ l, I64 x) (hl : l.length ≤ 1048576) :
    Calls Try.prog F.slices_Compact_sl_int_int #[s.v] w (Ret [.at .sl] fun (r : Sl) w' => Chg w w' (oB s) ∧ OwnL w' base T.t_int r (compTo l l.length) ∧ r.a = s.a) := by
  refine C_slices_Compact_sl_int_int ?_
  unfold V_slices_Compact_sl_int_int
  have hsl := h.1
  have hr := h.rep hok
  have hall : ∀ b, 1 ≤ b → b ≤ l.length → (∀ j, 1 ≤ j → j < b → l.getD j 0 ≠ l.getD (j - 1) 0) → compTo l b = l.take b := by
    intro b
    induction b with
    | zero => intro h; omega
    | succ b ih =>
      intro _ hb hne
      rw [List.take_succ_eq_append_getElem (by omega), compTo, getD_eq (by omega)]
      by_cases h0 : b = 0
      · subst h0; simp [compTo]
      · rw [ih (by omega) (by omega) (fun j h1 h2 => hne j h1 (by omega)), if_pos (.inr (by have := hne b (by omega) (by omega); rwa [getD_eq (by omega)] at this))]
  rw [hsl]
  refine cond_dec (fun hlt => ?_) (fun hge => ?_)
  · refine ⟨Chg.refl _ _, ?_, rfl⟩
    have : compTo l l.length = l := by
      by_cases h0 : l.length = 0
      · rw [List.length_eq_zero_iff.1 h0]; rfl
      · rw [hall l.length (by omega) (Nat.le_refl _) (fun j h1 h2 => by omega), List.take_length]
    rw [this]; exact h
  · refine ⟨fun i w' => ∃ k : Nat, i = k ∧ 1 ≤ k ∧ k ≤ l.length ∧ Ext w w' ∧ ∀ j, 1 ≤ j → j < k → l.getD j 0 ≠ l.getD (j - 1) 0, fun i _ => l.length - i.toNat, ⟨1, rfl, by omega, by omega, Ext.refl _, fun j h1 h2 => by omega⟩, ?_⟩
    rintro _ w1 ⟨k, rfl, hk1, hkl, hE1, hne⟩
    intros
    refine cond_dec (fun hlt => ?_) (fun hge2 => ?_)
    · have hk : k < l.length := by omega
      refine (hr.ext hE1).ixI (i := k) hk fun q _ hc => LD_int hc ?_
      rw [wrap_of (by omega) (by omega)]
      have e1 : ((k : Int) - 1) = ((k - 1 : Nat) : Int) := by omega
      rw [e1]
      refine (hr.ext hE1).ixI (i := k - 1) (by omega) fun q _ hc => LD_int hc ?_
      intro w2 hE2
      refine cond_b (fun heq => ?_) (fun hneq => ?_)
      · have heq' : l[k] = l[k - 1] := by simpa using heq
        refine SLC_from' hr.2.1.1 (by omega) fun d hdl hdc hda => ?_
        have hck : compTo l (k + 1) = l.take k := by
          rw [compTo, hall k hk1 (by omega) hne, if_neg (by rw [getD_eq hk, getD_eq (by omega)]; simp only [not_or, Decidable.not_not]; exact ⟨by omega, heq'⟩), List.append_nil]
        refine ⟨fun i j w' => ∃ a b : Nat, i = a ∧ j = b ∧ 1 ≤ b ∧ k + b ≤ l.length ∧ a < k + b ∧ k ≤ a ∧ Chg w w' (oB s) ∧ ∃ X : List Int, OwnL w' base T.t_int s X ∧ X.length = l.length ∧ X.take a = compTo l (k + b) ∧ (compTo l (k + b)).length = a ∧ X.drop (k + b - 1) = l.drop (k + b - 1) ∧ ∀ x ∈ X, I64 x, fun _ j _ => l.length - j.toNat,
          ⟨k, 1, rfl, rfl, by omega, by omega, by omega, by omega, .of_ext (hE1.trans hE2), l, h.ext (hE1.trans hE2), rfl, hck.symm, by rw [hck]; simp; omega, rfl, hok⟩, ?_⟩
        rintro _ _ w3 ⟨a, b, rfl, rfl, hb1, hkb, hab, hka, hC, X, hO, hXl, hXa, hal, hXd, hXo⟩
        intros
        rw [hdl, hsl]
        have hXR := slr_sub (hO.rep hXo) (i := k) (by omega) (by rw [hdl]) hdc hda
        refine cond_dec (fun hlt2 => ?_) (fun hge3 => ?_)
        · have hb : k + b < l.length := by omega
          have hX1 : X[k + b]'(by omega) = l[k + b] := by
            have h1 : (X.drop (k + b - 1))[1]? = (l.drop (k + b - 1))[1]? := by rw [hXd]
            rw [List.getElem?_drop, List.getElem?_drop, show k + b - 1 + 1 = k + b by omega, List.getElem?_eq_getElem (by omega), List.getElem?_eq_getElem hb] at h1
            simpa using h1
          have hX0 : X[k + b - 1]'(by omega) = l[k + b - 1] := by
            have h1 : (X.drop (k + b - 1))[0]? = (l.drop (k + b - 1))[0]? := by rw [hXd]
            rw [List.getElem?_drop, List.getElem?_drop, Nat.add_zero, List.getElem?_eq_getElem (by omega), List.getElem?_eq_getElem (by omega)] at h1
            simpa using h1
          refine hXR.ixI (i := b) (by simp; omega) fun q _ hc => LD_int hc ?_
          rw [wrap_of (by omega) (by omega), show ((b : Int) - 1) = ((b - 1 : Nat) : Int) by omega]
          refine hXR.ixI (i := b - 1) (by simp; omega) fun q _ hc => LD_int hc ?_
          intro w4 hE4
          simp only [List.getElem_drop, show k + (b - 1) = k + b - 1 by omega, hX1, hX0]
          have hC4 := hC.trans (Chg.of_ext hE4)
          have hO4 := hO.ext hE4
          have hd2 : X.drop (k + b) = l.drop (k + b) := by
            have := congrArg (List.drop 1) hXd
            rwa [List.drop_drop, List.drop_drop, show k + b - 1 + 1 = k + b by omega] at this
          refine cond_b (fun hne2 => ?_) (fun heq2 => ?_)
          · have hne' : l[k + b] ≠ l[k + b - 1] := by simpa using hne2
            have hcs : compTo l (k + b + 1) = compTo l (k + b) ++ [l[k + b]] := by
              rw [compTo, if_pos (.inr (by rw [getD_eq hb, getD_eq (by omega)]; exact hne')), getD_eq hb]
            refine (hXR.ext hE4).ixI (i := b) (by simp; omega) fun q _ hc => LD_int hc ?_
            simp only [List.getElem_drop, hX1]
            refine IX_own hO4 (i := a) (by omega) rfl fun q hq => ?_
            refine ST_own hO4 (i := a) (by omega) hq l[k + b] rfl fun w5 hO5 hs5 => ?_
            rw [wrap_of (by omega) (by omega), wrap_of (by omega) (by omega)]
            refine ⟨⟨a + 1, b + 1, by omega, by omega, by omega, by omega, by omega, by omega, hC4.trans (.of_step hs5 fun k hk => hk), X.set a l[k + b], hO5, by simpa using hXl, ?_, ?_, ?_, ?_⟩, by show l.length - (_ : Int).toNat < l.length - (_ : Int).toNat; omega⟩
            · rw [show k + (b + 1) = k + b + 1 by omega, hcs, ← hXa, List.take_succ_eq_append_getElem (by simp; omega), List.take_set, List.set_eq_of_length_le (by simp; omega)]
              simp
            · rw [show k + (b + 1) = k + b + 1 by omega, hcs]; simp [hal]
            · rw [show k + (b + 1) - 1 = k + b by omega, List.drop_set_of_lt (by omega)]
              exact hd2
            · intro x hx
              rcases List.mem_or_eq_of_mem_set hx with h1 | h1
              · exact hXo x h1
              · rw [h1]; exact hok _ (List.getElem_mem hb)
          · have heq' : l[k + b] = l[k + b - 1] := by simpa using heq2
            have hcs : compTo l (k + b + 1) = compTo l (k + b) := by
              rw [compTo, if_neg (by rw [getD_eq hb, getD_eq (by omega)]; simp only [not_or, Decidable.not_not]; exact ⟨by omega, heq'⟩), List.append_nil]
            rw [wrap_of (by omega) (by omega)]
            exact ⟨⟨a, b + 1, rfl, by omega, by omega, by omega, by omega, by omega, hC4, X, hO4, hXl, by rw [show k + (b + 1) = k + b + 1 by omega, hcs]; exact hXa, by rw [show k + (b + 1) = k + b + 1 by omega, hcs]; exact hal, by rw [show k + (b + 1) - 1 = k + b by omega]; exact hd2, hXo⟩, by show l.length - (_ : Int).toNat < l.length - (_ : Int).toNat; omega⟩
        · have hkb' : k + b = l.length := by omega
          rw [hkb'] at hXa hal
          have hcap : s.len ≤ s.cap := (hO.rep hXo).2.1.1
          refine SLC_from hcap (by omega) fun d2 hdl2 hda2 => ?_
          refine RUN_clearI slt_int hO (i := a) (by omega) (by rw [hda2 (by omega)]; simp) (by omega) fun w5 hO5 hs5 => ?_
          refine SLC_to (by omega) fun y hyl hya hyc => ?_
          refine ⟨hC.trans (.of_step hs5 fun k hk => hk), ?_, hya⟩
          have := hO5.front (k := a) (by simp; omega)
          have hy : y = ⟨s.a, a, s.cap⟩ := by cases y; simp_all
          rw [hy]
          rw [List.take_append_of_le_length (by simp; omega), List.take_take, Nat.min_self, hXa] at this
          exact this
      · have hneq' : l[k] ≠ l[k - 1] := by simpa using hneq
        rw [wrap_of (by omega) (by omega)]
        refine ⟨⟨k + 1, by omega, by omega, by omega, hE1.trans hE2, fun j h1 h2 => ?_⟩, by show l.length - (_ : Int).toNat < l.length - (_ : Int).toNat; omega⟩
        by_cases e : j = k
        · subst e; rw [getD_eq hk, getD_eq (by omega)]; exact hneq'
        · exact hne j h1 (by omega)
    · have : k = l.length := by omega
      subst this
      refine ⟨.of_ext hE1, ?_, rfl⟩
      rw [hall _ hk1 (Nat.le_refl _) hne, List.take_length]
      exact h.ext hE1

end Go.Proofs.Ytncnlckblciegaa
