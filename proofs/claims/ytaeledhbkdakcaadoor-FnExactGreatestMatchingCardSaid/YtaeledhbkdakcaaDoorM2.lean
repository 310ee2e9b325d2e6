/- Own texts, merged: Net, Sort, Coll, Good, Near, Dist, At0, Edges, Col, Match, Sets, Max, Write, Mark, Copy, Lib, Delete, Take, GmPure, GmS, BitsL, Memo, GmI, GmC. -/
import Derived.Test.YtaeledhbkdakcaaDoorM1
import Derived.Shelf.Sort.Plain
import Derived.Ground.Names2Prog
import Derived.Shelf.Slices.In.SortNone
import Derived.Ground.SlgnProg
import Derived.Test.YtaeledhbkdakcaaDoorProg
import Derived.Sort.OwnSortedInts
import Derived.Laws.IdiomCopy
import Derived.Lib.TrailingZeros
import Derived.Shelf.Lays7
import Derived.Shelf.Spec.TrailingZeros
import Derived.MapKept
set_option linter.unusedVariables false
section
/- Networks: how they lie in memory, and the contracts of the functions that copy, weigh and compare them. -/
namespace Go.Proofs.YtaeledhbkdakcaaDoor
open Go.GX Go.RowKit
set_option maxRecDepth 100000

structure Net where
  ends : List (List (Int × Int))
  ids : List Int
  inputs : List Int

/-- Three slices read as a network. -/
def RNet (w : World) (a b c : Sl) (n : Net) : Prop := R w a n.ends ∧ R w b n.ids ∧ R w c n.inputs

theorem RNet.ext {w w' : World} {a b c : Sl} {n : Net} (h : RNet w a b c n) (hE : Ext w w') : RNet w' a b c n := ⟨h.1.ext hE, h.2.1.ext hE, h.2.2.ext hE⟩

theorem slt_int : SlT Tryd.prog T.t_sl_int T.t_int 1 8 (.int .i64 0) := ⟨by kernel_rfl, by kernel_rfl, rfl, by decide⟩
theorem slt_end : SlT Tryd.prog T.t_sl_i_End T.t_i_End 2 16 (.agg #[.int .i64 0, .int .i64 0]) := ⟨by kernel_rfl, by kernel_rfl, rfl, by decide⟩
theorem slt_ends : SlT Tryd.prog T.t_sl_sl_i_End T.t_sl_i_End 1 24 (.slice none 0 0) := ⟨by kernel_rfl, by kernel_rfl, rfl, by decide⟩

theorem flat_ok {w : World} {s : Sl} {l : List Int} (h : R w s l) : ∀ x ∈ l, I64 x := fun x hx => by
  obtain ⟨i, hi, rfl⟩ := List.mem_iff_getElem.1 hx
  obtain ⟨_, _, _, _, ⟨_, h1⟩, _⟩ := h.2.2 i l[i] (by simp [hi])
  exact h1

theorem toIntS_ok {w : World} {a : Sl} {l : List Int} (h : R w a l) (hb : l.length ≤ 1048576) :
    Calls Tryd.prog F.l_toIntS #[a.v] w (Ret [.at .sl] fun (s : Sl) w' => Ext w w' ∧ OwnL w' w.heap.size T.t_int s l) := by
  refine C_l_toIntS ?_
  unfold V_l_toIntS
  rw [h.len]
  refine RUN_make (α := Int) slt_int (d := 0) rfl (by omega) (by unfold maxLen; omega) fun s w1 hE1 hO1 => ?_
  refine ⟨IN l.length fun i w' => Ext w w' ∧ OwnL w' w.heap.size T.t_int s (l.take i ++ List.replicate (l.length - i) 0), MN l.length, IN_zero ⟨hE1, by simpa using hO1⟩, ?_⟩
  rintro x w2 ⟨i, rfl, hi, hE, hO⟩
  intros
  refine cond_dec (fun hlt => ?_) (fun hge => ?_)
  · have hlt' : i < l.length := by omega
    refine (h.ext hE).ixI hlt' fun p h64 hc => LD_int hc ?_
    refine IX_own hO (by rw [fill_len hi]; exact hlt') rfl fun p hp => ?_
    refine ST_own hO (by rw [fill_len hi]; exact hlt') hp l[i] rfl fun w3 hO3 hs => ?_
    refine IN_next (by omega) hlt' ⟨hs.ext0 hE (fun k hk => (hO.blk k hk).1), ?_⟩
    rw [← fill_step hlt']; exact hO3
  · have : i = l.length := by omega
    subst this
    exact ⟨hE, by simpa using hO⟩

theorem eqIntS_ok {w : World} {a b : Sl} {l m : List Int} (ha : R w a l) (hb : R w b m) :
    Calls Tryd.prog F.l_eqIntS #[a.v, b.v] w (Ret [.at .bool] fun (x : Bool) w' => x = decide (l = m) ∧ Ext w w') := by
  refine C_l_eqIntS ?_
  unfold V_l_eqIntS
  rw [ha.len, hb.len]
  refine cond_ne (fun hne => ⟨?_, Ext.refl _⟩) (fun he => ?_)
  · rw [decide_eq_false]; intro h; subst h; exact hne rfl
  · have hl : l.length = m.length := by omega
    refine ⟨IN l.length fun i w' => Ext w w' ∧ l.take i = m.take i, MN l.length, IN_zero ⟨Ext.refl _, by simp⟩, ?_⟩
    rintro x w1 ⟨i, rfl, hi, hE, ht⟩
    intros
    refine cond_dec (fun hlt => ?_) (fun hge => ⟨?_, hE⟩)
    · have h1 : i < l.length := by omega
      have h2 : i < m.length := by omega
      refine (ha.ext hE).ixI h1 fun p _ hc => LD_int hc ?_
      refine (hb.ext hE).ixI h2 fun p _ hc => LD_int hc ?_
      intro w2 hE2
      refine cond_ne (fun hne => ⟨?_, hE.trans hE2⟩) (fun heq => ?_)
      · rw [decide_eq_false]; intro h; subst h; exact hne rfl
      · exact IN_next ha.le h1 ⟨hE.trans hE2, by rw [List.take_succ_eq_append_getElem h1, List.take_succ_eq_append_getElem h2, ht, heq]⟩
    · have h3 : i = l.length := by omega
      subst h3
      rw [decide_eq_true]
      have h4 : m.take l.length = m := List.take_of_length_le (by omega)
      rw [h4, List.take_length] at ht
      exact ht


/-- A struct that is copied field by field. -/
theorem toEnd_ok (x y : Int) (w : World) : Calls Tryd.prog F.l_toEnd #[.agg #[.int .i64 x, .int .i64 y]] w (Ret [.agg [.int .i64, .int .i64]] fun (a b : Int) w' => a = x ∧ b = y ∧ Ext w w') := by
  refine C_l_toEnd ?_
  unfold V_l_toEnd
  refine NEW_intro fun pa w1 hp1 hs1 hE1 hb1 => ?_
  refine NEW_intro fun px w2 hp2 hs2 hE2 hb2 => ?_
  refine NEW_intro fun po w3 hp3 hs3 hE3 hb3 => ?_
  have ha3 := (hb1.ext hE2).ext hE3
  have hx3 := hb2.ext hE3
  have hE : Ext w w3 := (hE1.trans hE2).trans hE3
  refine LD_bi0 ha3 ?_
  refine ST_box1 hb3 (by simp) rfl fun w4 hz4 hk4 hX4 hb4 => ?_
  have ha4 := ha3.of_block (hk4 _ (by omega))
  have hx4 := hx3.of_block (hk4 _ (by omega))
  refine LD_bi1 ha4 ?_
  refine ST_box1 hb4 (by simp) rfl fun w5 hz5 hk5 hX5 hb5 => ?_
  have hx5 := hx4.of_block (hk5 _ (by omega))
  refine LD_box2 hb5 ?_
  refine ST_all hx5 (one2 _ _) rfl fun w6 hs6 hz6 hb6 => ?_
  refine LD_box2 hb6 ⟨rfl, rfl, ?_⟩
  exact hs6.ext0 (hX5 _ (hX4 _ hE (by omega)) (by omega)) (fun k hk => by cases hk; omega)

theorem flat_okE {w : World} {s : Sl} {l : List (Int × Int)} (h : R w s l) : ∀ x ∈ l, I64 x.1 ∧ I64 x.2 := fun x hx => by
  obtain ⟨i, hi, rfl⟩ := List.mem_iff_getElem.1 hx
  obtain ⟨_, _, _, _, ⟨_, h1⟩, _⟩ := h.2.2 i l[i] (by simp [hi])
  exact h1

theorem toEndS_ok {w : World} {a : Sl} {l : List (Int × Int)} (h : R w a l) (hb : l.length ≤ 1048576) :
    Calls Tryd.prog F.l_toEndS #[a.v] w (Ret [.at .sl] fun (s : Sl) w' => Ext w w' ∧ OwnL w' w.heap.size T.t_i_End s l) := by
  refine C_l_toEndS ?_
  unfold V_l_toEndS
  rw [h.len]
  refine RUN_make (α := Int × Int) slt_end (d := (0, 0)) rfl (by omega) (by unfold maxLen; omega) fun s w1 hE1 hO1 => ?_
  refine ⟨IN l.length fun i w' => Ext w w' ∧ OwnL w' w.heap.size T.t_i_End s (l.take i ++ List.replicate (l.length - i) (0, 0)), MN l.length, IN_zero ⟨hE1, by simpa using hO1⟩, ?_⟩
  rintro x w2 ⟨i, rfl, hi, hE, hO⟩
  intros
  refine cond_dec (fun hlt => ?_) (fun hge => ?_)
  · have hlt' : i < l.length := by omega
    refine (h.ext hE).ixE hlt' fun p _ _ hc0 hc1 => LD_int2 hc0 hc1 ?_
    refine call (toEnd_ok _ _ _) ?_
    rintro _ _ w3 ⟨rfl, rfl, hE3⟩
    have hO' := hO.ext hE3
    refine IX_own hO' (by rw [fill_len hi]; exact hlt') rfl fun p hp => ?_
    refine ST_own hO' (by rw [fill_len hi]; exact hlt') hp l[i] rfl fun w4 hO4 hs => ?_
    refine IN_next (by omega) hlt' ⟨hs.ext0 (hE.trans hE3) (fun k hk => (hO'.blk k hk).1), ?_⟩
    rw [← fill_step hlt']; exact hO4
  · have : i = l.length := by omega
    subst this
    exact ⟨hE, by simpa using hO⟩

/-- The cells of an own slice of slices, and what each reads as. -/
theorem toEndSS_own {w : World} {a : Sl} {l : List (List (Int × Int))} (h : R w a l) (hb : l.length ≤ 1048576) (hbb : ∀ r ∈ l, r.length ≤ 1048576) :
    Calls Tryd.prog F.l_toEndSS #[a.v] w (Ret [.at .sl] fun (s : Sl) w' => Ext w w' ∧ Own2 w' w.heap.size T.t_i_End T.t_sl_i_End s l) := by
  refine C_l_toEndSS ?_
  unfold V_l_toEndSS
  rw [h.len]
  refine RUN_make (α := Sl) slt_ends (d := ⟨none, 0, 0⟩) rfl (by omega) (by unfold maxLen; omega) fun s w1 hE1 hO1 => ?_
  refine ⟨IN l.length fun i w' => Ext w w' ∧ ∃ ss : List Sl, ss.length = l.length ∧ OwnL w' w.heap.size T.t_sl_i_End s ss ∧ ∀ (k : Nat) (q : Sl) (m : List (Int × Int)), k < i → ss[k]? = some q → l[k]? = some m → OwnL w' w.heap.size T.t_i_End q m, MN l.length,
    IN_zero ⟨hE1, List.replicate l.length ⟨none, 0, 0⟩, by simp, hO1, fun k _ _ h3 => by omega⟩, ?_⟩
  rintro x w2 ⟨i, rfl, hi, hE, ss, hss, hO, hR⟩
  intros
  refine cond_dec (fun hlt => ?_) (fun hge => ?_)
  · have hlt' : i < l.length := by omega
    refine (h.ext hE).ixL hlt' fun p s' hs' hc => LD_sl hc ?_
    have hz := hE.size_le
    refine call (toEndS_ok hs'.any (hbb _ (List.getElem_mem _))) ?_
    rintro s3 w3 ⟨hE3, hO3⟩
    have hO' := hO.ext hE3
    refine IX_own hO' (by omega) rfl fun p hp => ?_
    refine ST_own hO' (by omega) hp s3 rfl fun w4 hO4 hs => ?_
    refine IN_next (by omega) hlt' ⟨hs.ext0 (hE.trans hE3) (fun k hk => (hO'.blk k hk).1), ss.set i s3, by simp [hss], hO4, fun k q m h1 h2 h3 => ?_⟩
    by_cases hk : k = i
    · subst hk
      rw [List.getElem?_set_self (by omega)] at h2
      rw [List.getElem?_eq_getElem hlt'] at h3
      cases h2
      cases h3
      exact (hO3.low hz).step hO' (by decide) hs
    · rw [List.getElem?_set_ne (Ne.symm hk)] at h2
      exact ((hR k q m (by omega) h2 h3).ext hE3).step hO' (by decide) hs
  · have : i = l.length := by omega
    subst this
    refine ⟨hE, ss, hO, hss, fun k q m h2 h3 => hR k q m (List.getElem?_eq_some_iff.1 h3).1 h2 h3⟩

theorem flat_okEE {w : World} {s : Sl} {l : List (List (Int × Int))} (h : R w s l) : ∀ r ∈ l, ∀ x ∈ r, Flat.ok x := fun r hr x hx => by
  obtain ⟨i, hi, rfl⟩ := List.mem_iff_getElem.1 hr
  obtain ⟨_, _, _, _, ⟨s', _, h1⟩, _⟩ := h.2.2 i l[i] (by simp [hi])
  exact flat_okE h1 x hx

/-- A network that fits the law's bound. -/
def Small (n : Net) : Prop := n.ends.length ≤ 1048576 ∧ (∀ r ∈ n.ends, r.length ≤ 1048576) ∧ n.ids.length ≤ 1048576 ∧ n.inputs.length ≤ 1048576

/-- A network in the call's own memory. -/
structure OwnNet (w : World) (base : Nat) (x y z : Sl) (n : Net) : Prop where
  ends : Own2 w base T.t_i_End T.t_sl_i_End x n.ends
  ids : OwnL w base T.t_int y n.ids
  inputs : OwnL w base T.t_int z n.inputs

theorem OwnNet.ext {w w' : World} {base : Nat} {x y z : Sl} {n : Net} (h : OwnNet w base x y z n) (hE : Ext w w') : OwnNet w' base x y z n := ⟨h.ends.ext hE, h.ids.ext hE, h.inputs.ext hE⟩
theorem OwnNet.keep {w w' : World} {base : Nat} {x y z : Sl} {n : Net} (h : OwnNet w base x y z n) (hk : ∀ k, base ≤ k → k < w.heap.size → w'.heap[k]? = w.heap[k]?) : OwnNet w' base x y z n :=
  ⟨h.ends.keep hk, h.ids.keep fun k hb => hk k (h.ids.blk k hb).1 (h.ids.blk k hb).2, h.inputs.keep fun k hb => hk k (h.inputs.blk k hb).1 (h.inputs.blk k hb).2⟩
theorem OwnNet.low {w : World} {base b : Nat} {x y z : Sl} {n : Net} (h : OwnNet w base x y z n) (hb : b ≤ base) : OwnNet w b x y z n := ⟨h.ends.low hb, h.ids.low hb, h.inputs.low hb⟩
theorem OwnNet.net {w w0 : World} {base : Nat} {x y z a b c : Sl} {n : Net} (h : OwnNet w base x y z n) (h0 : RNet w0 a b c n) : RNet w x y z n :=
  ⟨h.ends.rep (flat_okEE h0.1), (h.ids.rep (flat_ok h0.2.1)).any, (h.inputs.rep (flat_ok h0.2.2)).any⟩

theorem toNetwork_own {w : World} {a b c : Sl} {n : Net} (h : RNet w a b c n) (hs : Small n) :
    Calls Tryd.prog F.l_toNetwork #[.agg #[a.v, b.v, c.v]] w (Ret [.agg [.sl, .sl, .sl]] fun (x y z : Sl) w' => Ext w w' ∧ OwnNet w' w.heap.size x y z n) := by
  refine C_l_toNetwork ?_
  unfold V_l_toNetwork
  refine NEW_intro fun pa w1 hp1 hs1 hE1 hb1 => ?_
  refine NEW_intro fun px w2 hp2 hs2 hE2 hb2 => ?_
  refine NEW_intro fun po w3 hp3 hs3 hE3 hb3 => ?_
  have ha3 := (hb1.ext hE2).ext hE3
  have hx3 := hb2.ext hE3
  have hE : Ext w w3 := (hE1.trans hE2).trans hE3
  have hlt := hb3.lt
  refine LD_bs0 ha3 ?_
  refine call (toEndSS_own (h.1.ext hE) hs.1 hs.2.1) ?_
  rintro x w4 ⟨hE4, hx⟩
  refine ST_box1 (hb3.ext hE4) (by simp) rfl fun w5 hz5 hk5 hX5 hb5 => ?_
  have hE5 := hX5 _ (hE.trans hE4) (by omega)
  have ha5 := (ha3.ext hE4).of_block (hk5 _ (by omega))
  have hx5 := (hx3.ext hE4).of_block (hk5 _ (by omega))
  have hX : Own2 w5 w3.heap.size T.t_i_End T.t_sl_i_End x n.ends := hx.keep fun b hb _ => hk5 b (by omega)
  refine LD_bs1 ha5 ?_
  have hsz5 : w3.heap.size ≤ w5.heap.size := by have := hE4.size_le; omega
  refine call (toIntS_ok (h.2.1.ext hE5) hs.2.2.1) ?_
  rintro y w6 ⟨hE6, hy⟩
  have hlt5 := hb5.lt
  refine ST_box1 (hb5.ext hE6) (by simp) rfl fun w7 hz7 hk7 hX7 hb7 => ?_
  have hE7 := hX7 _ (hE5.trans hE6) (by omega)
  have ha7 := (ha5.ext hE6).of_block (hk7 _ (by omega))
  have hx7 := (hx5.ext hE6).of_block (hk7 _ (by omega))
  have hX' : Own2 w7 w3.heap.size T.t_i_End T.t_sl_i_End x n.ends := (hX.ext hE6).keep fun b hb _ => hk7 b (by omega)
  have hy' := hy.low hsz5
  have hY : OwnL w7 w3.heap.size T.t_int y n.ids := hy'.keep fun b hb => hk7 b (by have := (hy'.blk b hb).1; omega)
  refine LD_bs2 ha7 ?_
  have hsz7 : w3.heap.size ≤ w7.heap.size := by have := hE6.size_le; omega
  refine call (toIntS_ok (h.2.2.ext hE7) hs.2.2.2) ?_
  rintro z w8 ⟨hE8, hz⟩
  have hlt7 := hb7.lt
  refine ST_box1 (hb7.ext hE8) (by simp) rfl fun w9 hz9 hk9 hX9 hb9 => ?_
  have hE9 := hX9 _ (hE7.trans hE8) (by omega)
  have hx9 := (hx7.ext hE8).of_block (hk9 _ (by omega))
  have hz' := hz.low hsz7
  have hN : OwnNet w9 w3.heap.size x y z n := OwnNet.keep (w := w8) ⟨hX'.ext hE8, hY.ext hE8, hz'⟩ fun b hb _ => hk9 b (by omega)
  refine LD_box3 hb9 ?_
  refine ST_all hx9 (one3 _ _ _) rfl fun w10 hs10 hz10 hb10 => ?_
  have hN' := hN.keep (w' := w10) fun b hb h2 => hs10.block b h2 (by intro he; cases he; omega)
  exact LD_box3 hb10 ⟨hs10.ext0 hE9 (fun k hk => by cases hk; omega), hN'.low hE.size_le⟩

theorem toNetwork_ok {w : World} {a b c : Sl} {n : Net} (h : RNet w a b c n) (hs : Small n) :
    Calls Tryd.prog F.l_toNetwork #[.agg #[a.v, b.v, c.v]] w (Ret [.agg [.sl, .sl, .sl]] fun (x y z : Sl) w' => Ext w w' ∧ RNet w' x y z n) :=
  call (toNetwork_own h hs) fun _ _ _ _ h1 => ⟨h1.1, h1.2.net h⟩

theorem szIntS_ok {w : World} {a : Sl} {l : List Int} (h : R w a l) (left : Int) (h0 : 0 ≤ left) (h1 : left ≤ 1048576) :
    Calls Tryd.prog F.l_szIntS #[a.v, .int .i64 left] w (Ret [.at (.int .i64)] fun (x : Int) w' => (0 ≤ x → x ≤ left ∧ l.length ≤ left) ∧ w = w') := by
  refine C_l_szIntS ?_
  unfold V_l_szIntS
  have := h.le
  rw [h.len, wrap_of (by omega) (by omega)]
  exact cond_dec (fun _ => ⟨by omega, rfl⟩) (fun _ => ⟨by omega, rfl⟩)

theorem szEndS_ok {w : World} {a : Sl} {l : List (Int × Int)} (h : R w a l) (left : Int) (h0 : 0 ≤ left) (h1 : left ≤ 1048576) :
    Calls Tryd.prog F.l_szEndS #[a.v, .int .i64 left] w (Ret [.at (.int .i64)] fun (x : Int) w' => (0 ≤ x → x ≤ left ∧ l.length ≤ left) ∧ w = w') := by
  refine C_l_szEndS ?_
  unfold V_l_szEndS
  have := h.le
  rw [h.len, wrap_of (by omega) (by omega)]
  exact cond_dec (fun _ => ⟨by omega, rfl⟩) (fun _ => ⟨by omega, rfl⟩)

theorem szEndSS_ok {w : World} {a : Sl} {l : List (List (Int × Int))} (h : R w a l) (left : Int) (h0 : 0 ≤ left) (h1 : left ≤ 1048576) :
    Calls Tryd.prog F.l_szEndSS #[a.v, .int .i64 left] w (Ret [.at (.int .i64)] fun (x : Int) w' => (0 ≤ x → x ≤ left ∧ l.length ≤ left ∧ ∀ r ∈ l, r.length ≤ left) ∧ w = w') := by
  refine C_l_szEndSS ?_
  unfold V_l_szEndSS
  have := h.le
  rw [h.len, wrap_of (by omega) (by omega)]
  refine cond_dec (fun _ => ⟨by omega, rfl⟩) (fun hle => ?_)
  refine ⟨fun y x w' => w = w' ∧ 0 ≤ y ∧ y ≤ left ∧ ∃ i : Nat, x = i ∧ i ≤ l.length ∧ ∀ r ∈ l.take i, r.length ≤ left, fun _ x _ => l.length - x.toNat, ⟨rfl, by omega, by omega, 0, rfl, by omega, by simp⟩, ?_⟩
  rintro y x _ ⟨rfl, hy0, hy, i, rfl, hi, hr⟩
  intros
  refine cond_dec (fun hlt => ?_) (fun hge => ⟨fun _ => ⟨hy, by omega, ?_⟩, rfl⟩)
  · have hlt' : i < l.length := by omega
    refine h.ixL hlt' fun p s' hs' hc => LD_sl hc ?_
    refine call (szEndS_ok hs'.any y hy0 (by omega)) ?_
    rintro x _ ⟨hx, rfl⟩
    refine cond_dec (fun _ => ⟨by omega, rfl⟩) (fun hn => ?_)
    have hx' := hx (by omega)
    rw [wrap_of (by omega) (by omega)]
    refine ⟨⟨rfl, by omega, by omega, i + 1, by omega, hlt', fun r hr' => ?_⟩, by simp only []; omega⟩
    rw [List.take_succ_eq_append_getElem hlt'] at hr'
    rcases List.mem_append.1 hr' with h3 | h3
    · exact hr r h3
    · rw [List.mem_singleton.1 h3]; omega
  · have : i = l.length := by omega
    subst this
    simpa using hr

theorem szNetwork_le {w : World} {a b c : Sl} {n : Net} (h : RNet w a b c n) :
    Calls Tryd.prog F.l_szNetwork #[.agg #[a.v, b.v, c.v], .int .i64 1048576] w (Ret [.at (.int .i64)] fun (x : Int) w' => (0 ≤ x → Small n ∧ x ≤ 1048576) ∧ Ext w w') := by
  refine C_l_szNetwork ?_
  unfold V_l_szNetwork
  refine NEW_intro fun pa w1 hp1 hs1 hE1 hb1 => ?_
  refine LD_bs0 hb1 ?_
  refine call (szEndSS_ok (h.1.ext hE1) _ (by omega) (by omega)) ?_
  rintro x1 _ ⟨h1, rfl⟩
  refine cond_dec (fun _ => ⟨by omega, hE1⟩) (fun hn1 => ?_)
  have k1 := h1 (by omega)
  refine LD_bs1 hb1 ?_
  refine call (szIntS_ok (h.2.1.ext hE1) _ (by omega) (by omega)) ?_
  rintro x2 _ ⟨h2, rfl⟩
  refine cond_dec (fun _ => ⟨by omega, hE1⟩) (fun hn2 => ?_)
  have k2 := h2 (by omega)
  refine LD_bs2 hb1 ?_
  refine call (szIntS_ok (h.2.2.ext hE1) _ (by omega) (by omega)) ?_
  rintro x3 _ ⟨h3, rfl⟩
  refine cond_dec (fun _ => ⟨by omega, hE1⟩) (fun hn3 => ?_)
  have k3 := h3 (by omega)
  exact ⟨fun _ => ⟨⟨by omega, fun r hr => by have := k1.2.2 r hr; omega, by omega, by omega⟩, by omega⟩, hE1⟩

theorem eqEnd_ok (x y z u : Int) (w : World) : Calls Tryd.prog F.l_eqEnd #[.agg #[.int .i64 x, .int .i64 y], .agg #[.int .i64 z, .int .i64 u]] w (Ret [.at .bool] fun (b : Bool) w' => b = decide ((x, y) = (z, u)) ∧ Ext w w') := by
  refine C_l_eqEnd ?_
  unfold V_l_eqEnd
  refine NEW_intro fun pa w1 hp1 hs1 hE1 hb1 => ?_
  refine NEW_intro fun pb w2 hp2 hs2 hE2 hb2 => ?_
  have ha := hb1.ext hE2
  refine LD_bi0 ha (LD_bi0 hb2 (cond_ne (fun hne => ⟨?_, hE1.trans hE2⟩) (fun he => ?_)))
  · rw [decide_eq_false]; intro h; exact hne (congrArg Prod.fst h)
  · refine LD_bi1 ha (LD_bi1 hb2 (cond_ne (fun hne => ⟨?_, hE1.trans hE2⟩) (fun he2 => ⟨?_, hE1.trans hE2⟩)))
    · rw [decide_eq_false]; intro h; exact hne (congrArg Prod.snd h)
    · rw [decide_eq_true]; rw [he, he2]

theorem eqEndS_ok {w : World} {a b : Sl} {l m : List (Int × Int)} (ha : R w a l) (hb : R w b m) :
    Calls Tryd.prog F.l_eqEndS #[a.v, b.v] w (Ret [.at .bool] fun (x : Bool) w' => x = decide (l = m) ∧ Ext w w') := by
  refine C_l_eqEndS ?_
  unfold V_l_eqEndS
  rw [ha.len, hb.len]
  refine cond_ne (fun hne => ⟨?_, Ext.refl _⟩) (fun he => ?_)
  · rw [decide_eq_false]; intro h; subst h; exact hne rfl
  · have hl : l.length = m.length := by omega
    refine ⟨IN l.length fun i w' => Ext w w' ∧ l.take i = m.take i, MN l.length, IN_zero ⟨Ext.refl _, by simp⟩, ?_⟩
    rintro x w1 ⟨i, rfl, hi, hE, ht⟩
    intros
    refine cond_dec (fun hlt => ?_) (fun hge => ⟨?_, hE⟩)
    · have h1 : i < l.length := by omega
      have h2 : i < m.length := by omega
      refine (ha.ext hE).ixE h1 fun p _ _ hc0 hc1 => LD_int2 hc0 hc1 ?_
      refine (hb.ext hE).ixE h2 fun p _ _ hc0 hc1 => LD_int2 hc0 hc1 ?_
      refine QCALL_bool _ (fun w' _ => eqEnd_ok _ _ _ _ w') ?_
      intro w2 hE2
      refine cond_not (fun hf => ⟨?_, hE.trans hE2⟩) (fun htr => ?_)
      · rw [decide_eq_false]; intro h; subst h; simp at hf
      · have heq : l[i] = m[i] := of_decide_eq_true htr
        exact IN_next ha.le h1 ⟨hE.trans hE2, by rw [List.take_succ_eq_append_getElem h1, List.take_succ_eq_append_getElem h2, ht, heq]⟩
    · have h3 : i = l.length := by omega
      subst h3
      rw [decide_eq_true]
      have h4 : m.take l.length = m := List.take_of_length_le (by omega)
      rw [h4, List.take_length] at ht
      exact ht

theorem eqEndSS_ok {w : World} {a b : Sl} {l m : List (List (Int × Int))} (ha : R w a l) (hb : R w b m) :
    Calls Tryd.prog F.l_eqEndSS #[a.v, b.v] w (Ret [.at .bool] fun (x : Bool) w' => x = decide (l = m) ∧ Ext w w') := by
  refine C_l_eqEndSS ?_
  unfold V_l_eqEndSS
  rw [ha.len, hb.len]
  refine cond_ne (fun hne => ⟨?_, Ext.refl _⟩) (fun he => ?_)
  · rw [decide_eq_false]; intro h; subst h; exact hne rfl
  · have hl : l.length = m.length := by omega
    refine ⟨IN l.length fun i w' => Ext w w' ∧ l.take i = m.take i, MN l.length, IN_zero ⟨Ext.refl _, by simp⟩, ?_⟩
    rintro x w1 ⟨i, rfl, hi, hE, ht⟩
    intros
    refine cond_dec (fun hlt => ?_) (fun hge => ⟨?_, hE⟩)
    · have h1 : i < l.length := by omega
      have h2 : i < m.length := by omega
      refine (ha.ext hE).ixL h1 fun p s1 hs1 hc => LD_sl hc ?_
      refine (hb.ext hE).ixL h2 fun p s2 hs2 hc => LD_sl hc ?_
      refine QCALL_bool _ (fun w' hw' => eqEndS_ok (hs1.any.ext hw') (hs2.any.ext hw')) ?_
      intro w2 hE2
      refine cond_not (fun hf => ⟨?_, hE.trans hE2⟩) (fun htr => ?_)
      · rw [decide_eq_false]; intro h; subst h; simp at hf
      · have heq : l[i] = m[i] := of_decide_eq_true htr
        exact IN_next ha.le h1 ⟨hE.trans hE2, by rw [List.take_succ_eq_append_getElem h1, List.take_succ_eq_append_getElem h2, ht, heq]⟩
    · have h3 : i = l.length := by omega
      subst h3
      rw [decide_eq_true]
      have h4 : m.take l.length = m := List.take_of_length_le (by omega)
      rw [h4, List.take_length] at ht
      exact ht

theorem eqNetwork_ok {w : World} {a b c x y z : Sl} {n : Net} (h : RNet w a b c n) (h' : RNet w x y z n) :
    Calls Tryd.prog F.l_eqNetwork #[.agg #[a.v, b.v, c.v], .agg #[x.v, y.v, z.v]] w (Ret [.at .bool] fun (r : Bool) w' => r = true ∧ Ext w w') := by
  refine C_l_eqNetwork ?_
  unfold V_l_eqNetwork
  refine NEW_intro fun pa w1 hp1 hs1 hE1 hb1 => ?_
  refine NEW_intro fun pb w2 hp2 hs2 hE2 hb2 => ?_
  have ha := hb1.ext hE2
  have hE := hE1.trans hE2
  refine LD_bs0 ha (LD_bs0 hb2 ?_)
  refine call (eqEndSS_ok (h.1.ext hE) (h'.1.ext hE)) ?_
  rintro _ w3 ⟨rfl, hE3⟩
  refine cond_f (by simp) ?_
  refine LD_bs1 (ha.ext hE3) (LD_bs1 (hb2.ext hE3) ?_)
  refine call (eqIntS_ok (h.2.1.ext (hE.trans hE3)) (h'.2.1.ext (hE.trans hE3))) ?_
  rintro _ w4 ⟨rfl, hE4⟩
  refine cond_f (by simp) ?_
  have hE34 := hE3.trans hE4
  refine LD_bs2 (ha.ext hE34) (LD_bs2 (hb2.ext hE34) ?_)
  refine call (eqIntS_ok (h.2.2.ext (hE.trans hE34)) (h'.2.2.ext (hE.trans hE34))) ?_
  rintro _ w5 ⟨rfl, hE5⟩
  exact cond_f (by simp) ⟨rfl, (hE.trans hE34).trans hE5⟩

end Go.Proofs.YtaeledhbkdakcaaDoor
end

section
/- The contract of slices.Sort at []int (the kit's shelf, laid at this program by the kit's own tools, in plain words): for every slice the cells are then in order. -/
namespace Go.Proofs.YtaeledhbkdakcaaDoor
open Go.Shelf
def Srt.lays189_ren : Go.Shelf.Ren := ⟨fun | 189 => 75 | 125 => 93 | 257 => 92 | 128 => 117 | 129 => 118 | 294 => 108 | 295 => 109 | 296 => 110 | 297 => 111 | 298 => 112 | 299 => 113 | 216 => 114 | 300 => 115 | 301 => 116 | 328 => 130 | 329 => 131 | 330 => 132 | 331 => 133 | 332 => 134 | 215 => 135 | 343 => 143 | n => n, fun | 28 => 23 | 3 => 3 | 46 => 55 | 0 => 0 | 51 => 118 | 53 => 120 | 4 => 4 | 183 => 150 | 182 => 149 | 131 => 87 | 5 => 5 | 9 => 9 | 218 => 161 | 222 => 165 | 228 => 174 | 229 => 175 | n => n, fun | n => n⟩
theorem Srt.lays189 : Go.Proofs.Lays.n189 Tryd.prog Srt.lays189_ren := {
  mixed := by kernel_rfl
  f125 := Tryd.func93.trans (congrArg some (by kernel_rfl))
  f128 := Tryd.func117.trans (congrArg some (by kernel_rfl))
  f129 := Tryd.func118.trans (congrArg some (by kernel_rfl))
  f189 := Tryd.func75.trans (congrArg some (by kernel_rfl))
  f215 := Tryd.func135.trans (congrArg some (by kernel_rfl))
  f216 := Tryd.func114.trans (congrArg some (by kernel_rfl))
  f257 := Tryd.func92.trans (congrArg some (by kernel_rfl))
  f294 := Tryd.func108.trans (congrArg some (by kernel_rfl))
  f295 := Tryd.func109.trans (congrArg some (by kernel_rfl))
  f296 := Tryd.func110.trans (congrArg some (by kernel_rfl))
  f297 := Tryd.func111.trans (congrArg some (by kernel_rfl))
  f298 := Tryd.func112.trans (congrArg some (by kernel_rfl))
  f299 := Tryd.func113.trans (congrArg some (by kernel_rfl))
  f300 := Tryd.func115.trans (congrArg some (by kernel_rfl))
  f301 := Tryd.func116.trans (congrArg some (by kernel_rfl))
  f328 := Tryd.func130.trans (congrArg some (by kernel_rfl))
  f329 := Tryd.func131.trans (congrArg some (by kernel_rfl))
  f330 := Tryd.func132.trans (congrArg some (by kernel_rfl))
  f331 := Tryd.func133.trans (congrArg some (by kernel_rfl))
  f332 := Tryd.func134.trans (congrArg some (by kernel_rfl))
  f343 := Tryd.func143.trans (congrArg some (by kernel_rfl))
  t0 := Tryd.underlying0
  a0 := Tryd.isAgg0
  z0 := Tryd.sizeOf0
  v0 := Tryd.zeroValue0
  t3 := Tryd.underlying3
  a3 := Tryd.isAgg3
  z3 := Tryd.sizeOf3
  v3 := Tryd.zeroValue3
  t4 := Tryd.underlying4
  a4 := Tryd.isAgg4
  z4 := Tryd.sizeOf4
  v4 := Tryd.zeroValue4
  t5 := Tryd.underlying5
  a5 := Tryd.isAgg5
  z5 := Tryd.sizeOf5
  v5 := Tryd.zeroValue5
  t9 := Tryd.underlying9
  a9 := Tryd.isAgg9
  z9 := Tryd.sizeOf9
  v9 := Tryd.zeroValue9
  t28 := Tryd.underlying23
  a28 := Tryd.isAgg23
  z28 := Tryd.sizeOf23
  v28 := Tryd.zeroValue23
  t46 := Tryd.underlying55
  a46 := Tryd.isAgg55
  z46 := Tryd.sizeOf55
  v46 := Tryd.zeroValue55
  t51 := Tryd.underlying118
  a51 := Tryd.isAgg118
  z51 := Tryd.sizeOf118
  v51 := Tryd.zeroValue118
  t53 := Tryd.underlying120
  a53 := Tryd.isAgg120
  z53 := Tryd.sizeOf120
  v53 := Tryd.zeroValue120
  t131 := Tryd.underlying87
  a131 := Tryd.isAgg87
  z131 := Tryd.sizeOf87
  v131 := Tryd.zeroValue87
  t182 := Tryd.underlying149
  a182 := Tryd.isAgg149
  z182 := Tryd.sizeOf149
  v182 := Tryd.zeroValue149
  t183 := Tryd.underlying150
  a183 := Tryd.isAgg150
  z183 := Tryd.sizeOf150
  v183 := Tryd.zeroValue150
  t218 := Tryd.underlying161
  a218 := Tryd.isAgg161
  z218 := Tryd.sizeOf161
  v218 := Tryd.zeroValue161
  t222 := Tryd.underlying165
  a222 := Tryd.isAgg165
  z222 := Tryd.sizeOf165
  v222 := Tryd.zeroValue165
  t228 := Tryd.underlying174
  a228 := Tryd.isAgg174
  z228 := Tryd.sizeOf174
  v228 := Tryd.zeroValue174
  t229 := Tryd.underlying175
  a229 := Tryd.isAgg175
  z229 := Tryd.sizeOf175
  v229 := Tryd.zeroValue175 }
open Go.Sort Go.RowKit in
theorem Srt.slices_Sort_int (blk off cap : Nat) (zs : List Int) (w : World) (hH : Holds (Value.int .i64) w blk off zs.toArray) (hblk : blk < w.heap.size) (hsz : zs.length < 4611686018427387904) :
    Calls Tryd.prog 75 #[.slice (some ⟨blk, off, none⟩) zs.length cap] w fun e w' =>
      e = .returned (.tuple #[]) ∧ ∃ n os, w' = grow (putRow (Value.int .i64) (Sort.ahead w n) blk off (zs.mergeSort fun x y => decide (x ≤ y)).toArray) os := Any.slices_Sort_int Srt.lays189 blk off cap zs w hH hblk hsz
open Go.RowKit Go.Sort in
/-- .. and plain. (LAID: no walk: one application.) -/
theorem Srt.slices_Sort_int_none (p : Option Addr) (cap : Nat) (w : World) :
    Calls Tryd.prog 75 #[.slice p 0 cap] w fun e w' => e = .returned (.tuple #[]) ∧ w' = w := Any.slices_Sort_int_none Srt.lays189 p cap w
end Go.Proofs.YtaeledhbkdakcaaDoor
end

section
/- Contracts of the functions on lists of numbers: sorting, copying, searching, ranges. -/
namespace Go.Proofs.YtaeledhbkdakcaaDoor
open Go.GX Go.RowKit
set_option maxRecDepth 100000

/-! ### slices.Sort, slices.Clone -/

def sortI (l : List Int) : List Int := l.mergeSort fun x y => decide (x ≤ y)

theorem flatI (l : List Int) : l.flatMap Flat.cells = l.map (Value.int .i64) := by
  induction l with
  | nil => rfl
  | cons x r ih => rw [List.flatMap_cons, ih]; rfl

theorem Ret_nil {Q : World → Prop} {w : World} (h : Q w) : Ret [] Q (.returned (.tuple #[])) w := h

theorem sort_ok {w : World} {base : Nat} {s : Sl} {l : List Int} (h : OwnL w base T.t_int s l) (hl : l.length ≤ 1048576) :
    Calls Tryd.prog F.slices_Sort_sl_int_int #[s.v] w (Ret [] fun w' => OwnL w' base T.t_int s (sortI l) ∧ Step w w' s.v.ownBlock) := by
  rcases h.2.2 with ⟨hv, h0⟩ | ⟨g, cap, cur, hv, hb, hg, hle, hmx, hsz, htake⟩
  · have hnil : l = [] := by rw [h.1] at h0; exact List.length_eq_zero_iff.1 h0
    subst hnil
    have hlen : s.len = 0 := h0
    have hsv : s.v = .slice s.a 0 s.cap := by rw [← hlen]
    rw [hsv]
    refine (Srt.slices_Sort_int_none s.a s.cap w).mono ?_
    rintro e w' ⟨rfl, rfl⟩
    exact Ret_nil ⟨by simpa [sortI] using h, Step.refl _ _⟩
  · have htake' : cur.toList.take l.length = l.map (Value.int .i64) := by rw [← flatI, ← htake, h.1]; simp [Rep.sz]
    have hsv : s.v = .slice (some ⟨g, 0, none⟩) l.length cap := by rw [← h.1]; exact hv
    rw [hsv]
    refine (Srt.slices_Sort_int g 0 cap l w (holds_of_blockI hg htake') (Array.getElem?_eq_some_iff.1 hg).1 (by omega)).mono ?_
    rintro e w' ⟨rfl, n, os, rfl⟩
    refine Ret_nil ⟨⟨by simp [sortI, h.1], ?_⟩, Step.of_grown (grownBy_sortedI _)⟩
    unfold Go.GX.Own
    rw [h.1, hsv, flatI]
    exact ownsRow_sortedI (by simp) hb hg (by rw [← h.1]; exact hle) hmx hsz

theorem clone_ok {w : World} {s : Sl} {l : List Int} (h : R w s l) (hl : l.length ≤ 1048576) :
    Calls Tryd.prog F.slices_Clone_sl_int_int #[s.v] w (Ret [.at .sl] fun (r : Sl) w' => Ext w w' ∧ OwnL w' w.heap.size T.t_int r l) := by
  refine C_slices_Clone_sl_int_int ?_
  unfold V_slices_Clone_sl_int_int
  refine cond_b (fun hn => ?_) (fun _ => ?_)
  · have hnil : l = [] := by
      cases l with
      | nil => rfl
      | cons x r => obtain ⟨a, _, ha, _⟩ := h.2.2 0 x rfl; rw [ha] at hn; cases hn
    subst hnil
    exact ⟨Ext.refl _, OwnL.nil _ _ _⟩
  · refine RUN_lit0 (α := Int) slt_int fun r w1 hE1 hO1 => ?_
    refine RUN_append (α := Int) slt_int hO1 hE1.size (h.ext hE1) (by simp; omega) (by simp [maxLen]; omega) fun r' w2 hO2 hs => ?_
    exact ⟨hs.ext0 hE1 (fun k hk => (hO1.blk k hk).1), by simpa using hO2⟩

/-! ### Ranges -/

/-- Strictly increasing, step by step. -/
def Incr (l : List Int) : Prop := ∀ i, (h : i + 1 < l.length) → l[i] < l[i + 1]

def AllIn (l : List Int) (lo hi : Int) : Prop := ∀ x ∈ l, lo ≤ x ∧ x ≤ hi

theorem allIn_take_succ {l : List Int} {lo hi : Int} {i : Nat} (hi' : i < l.length) (h : AllIn (l.take i) lo hi) (hx : lo ≤ l[i] ∧ l[i] ≤ hi) : AllIn (l.take (i + 1)) lo hi := fun x hm => by
  rw [List.take_succ_eq_append_getElem hi'] at hm
  rcases List.mem_append.1 hm with h1 | h1
  · exact h x h1
  · rw [List.mem_singleton.1 h1]; exact hx

theorem l1All_ok {w : World} {s : Sl} {l : List Int} (h : R w s l) (lo hi : Int) :
    Calls Tryd.prog F.s_l1All #[s.v, .int .i64 lo, .int .i64 hi] w (Ret [.at .bool] fun (b : Bool) w' => (b = true ↔ AllIn l lo hi) ∧ w = w') := by
  refine C_s_l1All ?_
  unfold V_s_l1All
  rw [h.len]
  refine ⟨IN l.length fun i w' => w = w' ∧ AllIn (l.take i) lo hi, MN l.length, IN_zero ⟨rfl, fun x hx => by simp at hx⟩, ?_⟩
  rintro x _ ⟨i, rfl, hi', rfl, ha⟩
  intros
  refine cond_dec (fun hlt => ?_) (fun hge => ⟨?_, rfl⟩)
  · have hlt' : i < l.length := by omega
    refine h.ixI hlt' fun p _ hc => LD_int hc ?_
    refine call (l1In_ok _ _ _ _) ?_
    rintro b _ ⟨hb, rfl⟩
    refine cond_not (fun hf => ⟨?_, rfl⟩) (fun ht => IN_next h.le hlt' ⟨rfl, allIn_take_succ hlt' ha (inR_true (hb ▸ ht))⟩)
    simp only [Bool.false_eq_true, false_iff]
    intro hall
    exact inR_false (hb ▸ hf) (hall _ (List.getElem_mem hlt'))
  · have : i = l.length := by omega
    subst this
    simpa using ha

/-- What both sides' test of increasing lists comes to. -/
def Rising (l : List Int) (lo hi : Int) : Prop := AllIn l lo hi ∧ Incr l

theorem incr_take_succ {l : List Int} {i : Nat} (hi : i < l.length) (h : Incr (l.take i)) (hx : ∀ (h0 : 0 < i), l[i - 1] < l[i]) : Incr (l.take (i + 1)) := by
  intro j hj
  simp at hj
  have h1 : (l.take (i + 1))[j]'(by simp; omega) = l[j]'(by omega) := by simp
  have h2 : (l.take (i + 1))[j + 1]'(by simp; omega) = l[j + 1]'(by omega) := by simp
  rw [h1, h2]
  by_cases hji : j + 1 = i
  · subst hji; exact hx (by omega)
  · have := h j (by simp; omega)
    simpa using this

theorem increasing_ok {w : World} {s : Sl} {l : List Int} (h : R w s l) (lo hi : Int) :
    Calls Tryd.prog F.i_increasing #[s.v, .int .i64 lo, .int .i64 hi] w (Ret [.at .bool] fun (b : Bool) w' => (b = true ↔ Rising l lo hi) ∧ w = w') := by
  refine C_i_increasing ?_
  unfold V_i_increasing
  rw [h.len]
  refine ⟨IN l.length fun i w' => w = w' ∧ AllIn (l.take i) lo hi ∧ Incr (l.take i), MN l.length, IN_zero ⟨rfl, fun x hx => by simp at hx, fun j hj => by simp at hj⟩, ?_⟩
  rintro x _ ⟨i, rfl, hi', rfl, ha, hinc⟩
  intros
  have hle := h.le
  refine cond_dec (fun hlt => ?_) (fun hge => ⟨?_, rfl⟩)
  · have hlt' : i < l.length := by omega
    refine h.ixI hlt' fun p _ hc => LD_int hc ?_
    refine call (within_ok _ _ _ _) ?_
    rintro b _ ⟨hb, rfl⟩
    refine cond_not (fun hf => ⟨?_, rfl⟩) (fun ht => ?_)
    · simp only [Bool.false_eq_true, false_iff]
      intro hall
      exact inR_false (hb ▸ hf) (hall.1 _ (List.getElem_mem hlt'))
    · have hr := inR_true (hb ▸ ht)
      refine cond_dec (fun hpos => ?_) (fun hnp => ?_)
      · have hpos' : 0 < i := by omega
        have e1 : IntKind.i64.wrap ((i : Int) - 1) = ((i - 1 : Nat) : Int) := by rw [wrap_of (by omega) (by omega)]; omega
        rw [e1]
        refine h.ixI (by omega) fun p _ hc => LD_int hc ?_
        refine cond_dec (fun hge2 => ⟨?_, rfl⟩) (fun hlt2 => ?_)
        · simp only [Bool.false_eq_true, false_iff]
          intro hall
          have := hall.2 (i - 1) (by omega)
          simp only [show i - 1 + 1 = i by omega] at this
          omega
        · exact IN_next hle hlt' ⟨rfl, allIn_take_succ hlt' ha hr, incr_take_succ hlt' hinc fun _ => by omega⟩
      · exact IN_next hle hlt' ⟨rfl, allIn_take_succ hlt' ha hr, incr_take_succ hlt' hinc fun h0 => absurd h0 (by omega)⟩
  · have : i = l.length := by omega
    subst this
    simp at ha hinc
    simp [Rising, ha, hinc]

/-! ### Searching with a function -/

/-- A function value that answers p for each element of a list, whatever the world that goes on from this one. -/
def Answers (w : World) (f : Value) (l : List Int) (p : Int → Bool) : Prop :=
  ∀ x ∈ l, ∀ w', Ext w w' → CALLV Tryd.prog f #[.int .i64 x] w' (Ret [.at .bool] fun (b : Bool) w'' => b = p x ∧ Ext w' w'')

theorem callv {P : Program} {f : Value} {args : Array Value} {w : World} {rs : List Sh} {Q Q' : Cur (World → Prop) (atsR rs)} (h : CALLV P f args w (Ret rs Q)) (hk : CurLe (atsR rs) Q Q') : CALLV P f args w (Ret rs Q') := by
  obtain ⟨g, caps, h1, h2, h3⟩ := h
  exact ⟨g, caps, h1, h2, call h3 hk⟩

theorem indexFuncI_ok {w : World} {s : Sl} {l : List Int} (h : R w s l) {f : Value} {p : Int → Bool} (hf : Answers w f l p) :
    Calls Tryd.prog F.slices_IndexFunc_sl_int_int #[s.v, f] w (Ret [.at (.int .i64)] fun (i : Int) w' => (match l.findIdx? p with | some k => i = k | none => i = -1) ∧ Ext w w') := by
  refine C_slices_IndexFunc_sl_int_int ?_
  unfold V_slices_IndexFunc_sl_int_int
  rw [h.len]
  refine ⟨IN l.length fun i w' => Ext w w' ∧ ∀ x ∈ l.take i, p x = false, MN l.length, IN_zero ⟨Ext.refl _, by simp⟩, ?_⟩
  rintro x w1 ⟨i, rfl, hi', hE, ha⟩
  intros
  refine cond_dec (fun hlt => ?_) (fun hge => ⟨?_, hE⟩)
  · have hlt' : i < l.length := by omega
    refine (h.ext hE).ixI hlt' fun q _ hc => LD_int hc ?_
    refine callv (hf _ (List.getElem_mem hlt') w1 hE) ?_
    rintro b w2 ⟨rfl, hE2⟩
    refine cond_b (fun ht => ⟨?_, hE.trans hE2⟩) (fun hf => ?_)
    · have : l.findIdx? p = some i := by
        rw [List.findIdx?_eq_some_iff_getElem]
        refine ⟨hlt', ht, fun j hj => ?_⟩
        have := ha l[j] (by rw [List.mem_take_iff_getElem]; exact ⟨j, by omega, rfl⟩)
        simp [this]
      rw [this]
    · refine IN_next h.le hlt' ⟨hE.trans hE2, fun y hy => ?_⟩
      rw [List.take_succ_eq_append_getElem hlt'] at hy
      rcases List.mem_append.1 hy with h1 | h1
      · exact ha y h1
      · rw [List.mem_singleton.1 h1]; exact hf
  · have : i = l.length := by omega
    subst this
    have : l.findIdx? p = none := by
      rw [List.findIdx?_eq_none_iff]
      intro y hy
      exact ha y (by simpa using hy)
    rw [this]

theorem containsFuncI_ok {w : World} {s : Sl} {l : List Int} (h : R w s l) {f : Value} {p : Int → Bool} (hf : Answers w f l p) :
    Calls Tryd.prog F.slices_ContainsFunc_sl_int_int #[s.v, f] w (Ret [.at .bool] fun (b : Bool) w' => b = l.any p ∧ Ext w w') := by
  refine C_slices_ContainsFunc_sl_int_int ?_
  unfold V_slices_ContainsFunc_sl_int_int
  refine call (indexFuncI_ok h hf) ?_
  rintro i w1 ⟨hi, hE⟩
  refine ⟨?_, hE⟩
  cases hf : l.findIdx? p with
  | none =>
    rw [hf] at hi
    simp only at hi
    subst hi
    have h1 := List.findIdx?_eq_none_iff.1 hf
    have : l.any p = false := by
      rw [List.any_eq_false]; intro x hx; simp [h1 x hx]
    rw [this]; rfl
  | some k =>
    rw [hf] at hi
    simp only at hi
    subst hi
    obtain ⟨hk, hp, _⟩ := List.findIdx?_eq_some_iff_getElem.1 hf
    have : l.any p = true := List.any_eq_true.2 ⟨l[k], List.getElem_mem hk, hp⟩
    rw [this]
    simp

theorem allWithin_ok {w : World} {s : Sl} {l : List Int} (h : R w s l) (lo hi : Int) :
    Calls Tryd.prog F.i_allWithin #[s.v, .int .i64 lo, .int .i64 hi] w (Ret [.at .bool] fun (b : Bool) w' => (b = true ↔ AllIn l lo hi) ∧ Ext w w') := by
  refine C_i_allWithin ?_
  unfold V_i_allWithin
  refine NEW_intro fun p1 w1 hp1 hs1 hE1 hb1 => ?_
  refine NEW_intro fun p2 w2 hp2 hs2 hE2 hb2 => ?_
  have hb1' := hb1.ext hE2
  have hE := hE1.trans hE2
  refine call (containsFuncI_ok (p := fun x => !inR x lo hi) (h.ext hE) ?_) ?_
  · intro x hx w' hw'
    refine CALLV_mk (by kernel_rfl) (C_i_allWithin_1 ?_)
    unfold V_i_allWithin_1
    refine LD_bi (hb1'.ext hw') (LD_bi (hb2.ext hw') ?_)
    refine call (within_ok _ _ _ _) ?_
    rintro b _ ⟨rfl, rfl⟩
    exact ⟨rfl, Ext.refl _⟩
  · rintro b w3 ⟨rfl, hE3⟩
    refine ⟨?_, hE.trans hE3⟩
    simp [AllIn, inR]

/-! ### Identifiers, inputs -/

def IdsOk (ids : List Int) (k : Nat) : Prop := AllIn ids 1 999999 ∧ ids.Nodup ∧ (ids.length = 0 ∨ ids.length = k)

theorem nodup_take_succ {l : List Int} {i : Nat} (hi : i < l.length) (h : (l.take i).Nodup) (hx : l[i] ∉ l.take i) : (l.take (i + 1)).Nodup := by
  rw [List.take_succ_eq_append_getElem hi, List.nodup_append]
  refine ⟨h, by simp, ?_⟩
  intro a ha b hb hab
  rw [List.mem_singleton.1 hb] at hab
  subst hab
  exact hx ha

theorem neIds_ok {w : World} {s : Sl} {l : List Int} (h : R w s l) (k : Nat) :
    Calls Tryd.prog F.s_neIds #[s.v, .int .i64 k] w (Ret [.at .bool] fun (b : Bool) w' => (b = true ↔ IdsOk l k) ∧ w = w') := by
  refine C_s_neIds ?_
  unfold V_s_neIds
  rw [h.len]
  refine ⟨IN l.length fun i w' => w = w' ∧ AllIn (l.take i) 1 999999 ∧ (l.take i).Nodup, MN l.length, IN_zero ⟨rfl, fun x hx => by simp at hx, by simp⟩, ?_⟩
  rintro x _ ⟨i, rfl, hi', rfl, ha, hn⟩
  intros
  refine cond_dec (fun hlt => ?_) (fun hge => ?_)
  · have hlt' : i < l.length := by omega
    refine h.ixI hlt' fun p _ hc => LD_int hc ?_
    refine call (l1In_ok _ _ _ _) ?_
    rintro b _ ⟨hb, rfl⟩
    refine cond_not (fun hf => ⟨?_, rfl⟩) (fun ht => ?_)
    · simp only [Bool.false_eq_true, false_iff]
      intro hall
      exact inR_false (hb ▸ hf) (hall.1 _ (List.getElem_mem hlt'))
    · refine h.take hi' rfl fun s' hs' => ?_
      refine call (l1Has_ok hs' _) ?_
      rintro b _ ⟨rfl, rfl⟩
      refine cond_b (fun hc => ⟨?_, rfl⟩) (fun hc => IN_next h.le hlt' ⟨rfl, allIn_take_succ hlt' ha (inR_true (hb ▸ ht)), nodup_take_succ hlt' hn (by simpa using hc)⟩)
      simp only [Bool.false_eq_true, false_iff]
      intro hall
      have hmem : l[i] ∈ l.take i := by simpa using hc
      obtain ⟨j, hj, he⟩ := List.mem_take_iff_getElem.1 hmem
      exact (List.pairwise_iff_getElem.1 hall.2.1) j i (by omega) hlt' (by omega) he
  · have : i = l.length := by omega
    subst this
    simp only [List.take_length] at ha hn
    refine cond_eq (fun h0 => ⟨?_, rfl⟩) (fun h0 => ⟨?_, rfl⟩)
    · simp only [true_iff]; exact ⟨ha, hn, .inl (by omega)⟩
    · rw [beq_iff_eq]
      constructor
      · intro he; exact ⟨ha, hn, .inr (by omega)⟩
      · rintro ⟨_, _, h1 | h1⟩
        · omega
        · omega

theorem incr_iff_pairwise {l : List Int} : Incr l ↔ l.Pairwise (· < ·) := by
  constructor
  · intro h
    rw [List.pairwise_iff_getElem]
    intro i j hi hj hij
    induction j with
    | zero => omega
    | succ j ih =>
      rcases Nat.lt_or_eq_of_le (Nat.le_of_lt_succ hij) with h1 | h1
      · exact Int.lt_trans (ih (by omega) h1) (h j hj)
      · subst h1; exact h i hj
  · intro h i hi
    exact (List.pairwise_iff_getElem.1 h) i (i + 1) (by omega) hi (by omega)

theorem sortI_perm (l : List Int) : (sortI l).Perm l := List.mergeSort_perm _ _

theorem sortI_sorted (l : List Int) : (sortI l).Pairwise (· ≤ ·) := by
  have := List.pairwise_mergeSort (le := fun x y : Int => decide (x ≤ y)) (fun a b c h1 h2 => by simp at *; omega) (fun a b => by simp; omega) l
  exact this.imp (by intro a b h; simpa using h)

theorem incr_sortI {l : List Int} : Incr (sortI l) ↔ l.Nodup := by
  rw [incr_iff_pairwise, ← (sortI_perm l).nodup_iff]
  constructor
  · intro h; exact h.imp (fun h => by omega)
  · intro h
    exact (List.pairwise_and_iff.2 ⟨sortI_sorted l, h⟩).imp (fun ⟨h1, h2⟩ => by omega)

theorem allIn_sortI {l : List Int} {lo hi : Int} : AllIn (sortI l) lo hi ↔ AllIn l lo hi :=
  ⟨fun h x hx => h x ((sortI_perm l).mem_iff.2 hx), fun h x hx => h x ((sortI_perm l).mem_iff.1 hx)⟩

theorem idsOk_ok {w : World} {s : Sl} {l : List Int} (h : R w s l) (hl : l.length ≤ 1048576) (k : Nat) :
    Calls Tryd.prog F.i_idsOk #[s.v, .int .i64 k] w (Ret [.at .bool] fun (b : Bool) w' => (b = true ↔ IdsOk l k) ∧ Ext w w') := by
  refine C_i_idsOk ?_
  unfold V_i_idsOk
  rw [h.len]
  refine cond_eq (fun h0 => ⟨?_, Ext.refl _⟩) (fun h0 => ?_)
  · have : l = [] := List.length_eq_zero_iff.1 (by omega)
    subst this
    simp [IdsOk, AllIn]
  · refine call (clone_ok h hl) ?_
    rintro r w1 ⟨hE1, hO1⟩
    refine call (sort_ok hO1 hl) ?_
    rintro w2 ⟨hO2, hs2⟩
    have hE2 := hs2.ext0 hE1 (fun k hk => (hO1.blk k hk).1)
    refine cond_eq (fun he => ?_) (fun hne => ⟨?_, hE2⟩)
    · have hr := hO2.rep (fun x hx => flat_ok h x ((sortI_perm l).mem_iff.1 hx))
      refine call (increasing_ok hr.any 1 999999) ?_
      rintro b _ ⟨hb, rfl⟩
      refine ⟨?_, hE2⟩
      rw [hb]
      unfold Rising IdsOk
      rw [incr_sortI, allIn_sortI]
      constructor
      · intro ⟨h1, h2⟩; exact ⟨h1, h2, .inr (by omega)⟩
      · intro ⟨h1, h2, _⟩; exact ⟨h1, h2⟩
    · simp only [Bool.false_eq_true, false_iff]
      rintro ⟨_, _, h1 | h1⟩
      · omega
      · omega

theorem inputsOk_ok {w : World} {s : Sl} {l : List Int} (h : R w s l) (k : Nat) :
    Calls Tryd.prog F.i_inputsOk #[s.v, .int .i64 k] w (Ret [.at .bool] fun (b : Bool) w' => (b = true ↔ l.length = k ∧ AllIn l 0 9) ∧ Ext w w') := by
  refine C_i_inputsOk ?_
  unfold V_i_inputsOk
  rw [h.len]
  refine cond_eq (fun he => ?_) (fun hne => ⟨?_, Ext.refl _⟩)
  · refine call (allWithin_ok h 0 9) ?_
    rintro b w1 ⟨hb, hE⟩
    refine ⟨?_, hE⟩
    rw [hb]
    constructor
    · intro h1; exact ⟨by omega, h1⟩
    · exact fun h1 => h1.2
  · simp only [Bool.false_eq_true, false_iff]
    intro h1; omega

end Go.Proofs.YtaeledhbkdakcaaDoor
end

section
/- When a network is a network: both sides' tests, and the laws' tests of nodes and ports. -/
namespace Go.Proofs.YtaeledhbkdakcaaDoor
open Go.GX Go.RowKit
set_option maxRecDepth 100000

abbrev Ends := List (List (Int × Int))

/-- The far end of port i of node v. -/
def port (E : Ends) (v i : Nat) : Option (Int × Int) := (E[v]?).bind (·[i]?)

theorem port_get {E : Ends} {v i : Nat} (hv : v < E.length) (hi : i < E[v].length) : port E v i = some E[v][i] := by
  simp [port, hv, hi]

theorem port_some {E : Ends} {v i : Nat} {e : Int × Int} (h : port E v i = some e) : ∃ (hv : v < E.length) (hi : i < E[v].length), E[v][i] = e := by
  unfold port at h
  by_cases hv : v < E.length
  · by_cases hi : i < E[v].length
    · simp [hv, hi] at h; exact ⟨hv, hi, h⟩
    · simp [hv, hi] at h
  · simp [hv] at h

/-- The far end leads back. -/
def Back (E : Ends) (v i : Nat) (e : Int × Int) : Prop := ∃ a b : Nat, e = ((a : Int), (b : Int)) ∧ port E a b = some ((v : Int), (i : Int))

def RowOk (E : Ends) (v : Nat) : Prop := (∀ r, E[v]? = some r → r.length ≤ 6) ∧ ∀ i e, port E v i = some e → Back E v i e

structure Good (n : Net) : Prop where
  size : 1 ≤ n.ends.length ∧ n.ends.length ≤ 40
  ids : IdsOk n.ids n.ends.length
  inputs : n.inputs.length = n.ends.length ∧ AllIn n.inputs 0 9
  rows : ∀ v < n.ends.length, RowOk n.ends v

theorem Good.deg {n : Net} (h : Good n) {v : Nat} (hv : v < n.ends.length) : n.ends[v].length ≤ 6 := (h.rows v hv).1 _ (by simp [hv])
theorem Good.back {n : Net} (h : Good n) {v i : Nat} (hv : v < n.ends.length) (hi : i < n.ends[v].length) : Back n.ends v i n.ends[v][i] := (h.rows v hv).2 i _ (port_get hv hi)

theorem hasNode_ok {w : World} {a b c : Sl} {n : Net} (h : RNet w a b c n) (v : Int) :
    Calls Tryd.prog F.i_Network_hasNode #[.agg #[a.v, b.v, c.v], .int .i64 v] w (Ret [.at .bool] fun (x : Bool) w' => x = decide (0 ≤ v ∧ v < n.ends.length) ∧ Ext w w') := by
  refine C_i_Network_hasNode ?_
  unfold V_i_Network_hasNode
  refine NEW_intro fun p w1 hp hs hE1 hb1 => LD_bs0 hb1 ?_
  have hl := h.1.le
  rw [h.1.len, wrap_of (by omega) (by omega)]
  refine call (within_ok _ _ _ _) ?_
  rintro x _ ⟨rfl, rfl⟩
  refine ⟨?_, hE1⟩
  rw [Bool.eq_iff_iff]
  simp [inR]
  omega

/-- Port numbers as whole numbers. -/
def portZ (E : Ends) (v i : Int) : Option (Int × Int) := if 0 ≤ v ∧ 0 ≤ i then port E v.toNat i.toNat else none

theorem hasPort_ok {w : World} {a b c : Sl} {n : Net} (h : RNet w a b c n) (v i : Int) :
    Calls Tryd.prog F.i_Network_hasPort #[.agg #[a.v, b.v, c.v], .int .i64 v, .int .i64 i] w (Ret [.at .bool] fun (x : Bool) w' => x = (portZ n.ends v i).isSome ∧ Ext w w') := by
  refine C_i_Network_hasPort ?_
  unfold V_i_Network_hasPort
  refine NEW_intro fun p w1 hp hs hE1 hb1 => LD_box3 hb1 ?_
  refine call (hasNode_ok (h.ext hE1) v) ?_
  rintro x w2 ⟨rfl, hE2⟩
  have hE := hE1.trans hE2
  refine cond_dec (fun ⟨h0, h1⟩ => ?_) (fun hn => ⟨?_, hE⟩)
  · refine LD_bs0 (hb1.ext hE2) ?_
    obtain ⟨m, rfl⟩ := Int.eq_ofNat_of_zero_le h0
    have hm : m < n.ends.length := by omega
    refine (h.ext hE).1.ixL hm fun q s hR hc => LD_sl hc ?_
    have hl := hR.le
    rw [hR.len, wrap_of (by omega) (by omega)]
    refine call (within_ok _ _ _ _) ?_
    rintro x _ ⟨rfl, rfl⟩
    refine ⟨?_, hE⟩
    unfold portZ
    by_cases hi : 0 ≤ i
    · obtain ⟨k, rfl⟩ := Int.eq_ofNat_of_zero_le hi
      by_cases hk : k < n.ends[m].length
      · simp [inR, port, hm, hk]; omega
      · simp [inR, port, hm, hk]; omega
    · simp [inR, hi]
  · unfold portZ
    by_cases h0 : 0 ≤ v ∧ 0 ≤ i
    · have : ¬ v.toNat < n.ends.length := by omega
      simp [h0, port, this]
    · simp [h0]

theorem end_struct : intStruct Tryd.prog T.t_i_End 2 = true := by kernel_rfl

theorem portZ_nat (E : Ends) (v i : Nat) : portZ E v i = port E v i := by simp [portZ]

theorem portZ_some {E : Ends} {v i : Int} {e : Int × Int} (h : portZ E v i = some e) : ∃ a b : Nat, v = a ∧ i = b ∧ port E a b = some e := by
  unfold portZ at h
  split at h
  · exact ⟨v.toNat, i.toNat, by omega, by omega, h⟩
  · cases h

theorem back_iff {E : Ends} {v i : Nat} {x y : Int} : Back E v i (x, y) ↔ portZ E x y = some ((v : Int), (i : Int)) := by
  constructor
  · rintro ⟨a, b, he, hp⟩
    cases he
    rw [portZ_nat]; exact hp
  · intro h
    obtain ⟨a, b, rfl, rfl, hp⟩ := portZ_some h
    exact ⟨a, b, rfl, hp⟩

def InvR (E : Ends) (w w' : World) (v : Nat) : Prop := Ext w w' ∧ ∀ u < v, RowOk E u
def InvP (E : Ends) (w w' : World) (v i : Nat) : Prop := InvR E w w' v ∧ ∀ j < i, ∀ e, port E v j = some e → Back E v j e

theorem isNetwork_k1 {w w0 : World} {a b c : Sl} {n : Net} (h : RNet w a b c n) {p : Addr} {t : TypeId} (hb : Box w p t [a.v, b.v, c.v]) (hE0 : Ext w0 w) :
    V_i_IsNetwork_k1 (fun x w' => (x = true ↔ ∀ v < n.ends.length, RowOk n.ends v) ∧ Ext w0 w') p w := by
  unfold V_i_IsNetwork_k1
  refine LD_bs0 hb ?_
  rw [h.1.len]
  have hN := h.1.le
  refine ⟨IN n.ends.length fun v w' => InvR n.ends w w' v, MN n.ends.length, IN_zero ⟨Ext.refl _, fun u hu => absurd hu (by omega)⟩, ?_⟩
  rintro _ w1 ⟨v, rfl, hv, hE1, hI⟩
  intros
  refine cond_dec (fun hlt => ?_) (fun hge => ⟨?_, hE0.trans hE1⟩)
  · have hv' : v < n.ends.length := by omega
    refine (h.ext hE1).1.ixL hv' fun q s hR hc => LD_sl hc ?_
    rw [hR.len]
    refine cond_dec (fun hgt => ⟨?_, hE0.trans hE1⟩) (fun hle => ?_)
    · simp only [Bool.false_eq_true, false_iff]
      intro hall
      have := (hall v hv').1 n.ends[v] (by simp [hv'])
      omega
    · refine ⟨IN n.ends[v].length fun i w' => Ext w1 w' ∧ InvP n.ends w w' v i, MN n.ends[v].length, IN_zero ⟨Ext.refl _, ⟨hE1, hI⟩, fun u hu => absurd hu (by omega)⟩, ?_⟩
      rintro _ w2 ⟨i, rfl, hi, hE12, ⟨hE2, _⟩, hJ⟩
      intros
      refine cond_dec (fun hlt2 => ?_) (fun hge2 => ?_)
      · have hi' : i < n.ends[v].length := by omega
        refine (hR.ext hE12).ixE hi' fun q h1 h2 hc0 hc1 => LD_int2 hc0 hc1 ?_
        refine NEW_ST (one2 _ _) rfl fun p6 w3 hp6 hE3 hb6 => ?_
        have hE03 := hE2.trans hE3
        refine LD_box3 (hb.ext hE03) ?_
        refine LD_bi0 hb6 (LD_bi1 hb6 ?_)
        refine QCALL_bool _ (fun w' hw' => hasPort_ok (h.ext (hE03.trans hw')) _ _) ?_
        have hbk : Back n.ends v i n.ends[v][i] ↔ portZ n.ends n.ends[v][i].1 n.ends[v][i].2 = some ((v : Int), (i : Int)) := back_iff (x := n.ends[v][i].1) (y := n.ends[v][i].2)
        have hfail : ¬ Back n.ends v i n.ends[v][i] → ¬ ∀ v < n.ends.length, RowOk n.ends v := fun hn hall => hn ((hall v hv').2 i _ (port_get hv' hi'))
        refine cond_not (fun hf w4 hE4 => ⟨?_, hE0.trans (hE03.trans hE4)⟩) (fun ht => ?_)
        · simp only [Bool.false_eq_true, false_iff]
          refine hfail fun hB => ?_
          rw [hbk.1 hB] at hf; cases hf
        · obtain ⟨e', he'⟩ := Option.isSome_iff_exists.1 ht
          obtain ⟨x, y, hx, hy, hp'⟩ := portZ_some he'
          obtain ⟨hx', hy', hxy⟩ := port_some hp'
          rw [hx, hy] at hbk
          rw [hx, hy] at hb6
          refine LD_bs0 (hb.ext hE03) (LD_bi0 hb6 ?_)
          refine (h.ext hE03).1.ixL hx' fun q s2 hR2 hc => LD_sl hc ?_
          refine LD_bi1 hb6 ?_
          refine hR2.ixE hy' fun q _ _ hc0 hc1 => LD_int2 hc0 hc1 ?_
          refine AEQ_neq2 end_struct ?_
          intro w4 hE4
          have hE04 := hE03.trans hE4
          rw [portZ_nat, port_get hx' hy'] at hbk
          have hbk' : Back n.ends v i n.ends[v][i] ↔ (n.ends[x][y].1, n.ends[x][y].2) = ((v : Int), (i : Int)) := hbk.trans (by simp [Prod.ext_iff])
          refine cond_not (fun hf => ⟨?_, hE0.trans hE04⟩) (fun ht => ?_)
          · simp only [Bool.false_eq_true, false_iff]
            exact hfail fun hB => (decide_eq_false_iff_not.1 hf) (hbk'.1 hB)
          · refine IN_next (by have := hR.le; omega) hi' ⟨hE12.trans (hE3.trans hE4), ⟨hE04, hI⟩, fun j hj e he => ?_⟩
            rcases Nat.lt_or_eq_of_le (Nat.le_of_lt_succ hj) with h5 | h5
            · exact hJ j h5 e he
            · subst h5
              rw [port_get hv' hi'] at he
              cases he
              exact hbk'.2 (decide_eq_true_iff.1 ht)
      · refine IN_next hN hv' ⟨hE2, fun u hu => ?_⟩
        rcases Nat.lt_or_eq_of_le (Nat.le_of_lt_succ hu) with h5 | h5
        · exact hI u h5
        · subst h5
          refine ⟨fun r hr => ?_, fun j e he => ?_⟩
          · simp [hv'] at hr; subst hr; omega
          · obtain ⟨_, hj, _⟩ := port_some he
            exact hJ j (by omega) e he
  · simp only [true_iff]
    exact fun u hu => hI u (by omega)

theorem isNetwork_ok {w : World} {a b c : Sl} {n : Net} (h : RNet w a b c n) (hl : n.ids.length ≤ 1048576) :
    Calls Tryd.prog F.i_IsNetwork #[.agg #[a.v, b.v, c.v]] w (Ret [.at .bool] fun (x : Bool) w' => (x = true ↔ Good n) ∧ Ext w w') := by
  refine C_i_IsNetwork ?_
  unfold V_i_IsNetwork
  refine NEW_intro fun p w1 hp hs hE1 hb1 => LD_bs0 hb1 ?_
  have h1 := h.ext hE1
  rw [h1.1.len]
  refine call (within_ok _ _ _ _) ?_
  rintro x _ ⟨rfl, rfl⟩
  refine cond_not (fun hf => ⟨?_, hE1⟩) (fun ht => ?_)
  · simp only [Bool.false_eq_true, false_iff]
    intro hg
    exact inR_false hf (by have := hg.size; omega)
  have hsz := inR_true ht
  refine LD_bs1 hb1 (LD_bs0 hb1 ?_)
  rw [h1.1.len]
  refine call (idsOk_ok h1.2.1 hl _) ?_
  rintro x w2 ⟨hx2, hE2⟩
  have hE02 := hE1.trans hE2
  refine cond_not (fun hf => ⟨?_, hE02⟩) (fun ht => ?_)
  · simp only [Bool.false_eq_true, false_iff]
    intro hg
    rw [hx2.2 hg.ids] at hf; cases hf
  have hids := hx2.1 ht
  have h2 := h1.ext hE2
  have hb2 := hb1.ext hE2
  refine LD_bs2 hb2 (LD_bs0 hb2 ?_)
  rw [h2.1.len]
  refine call (inputsOk_ok h2.2.2 _) ?_
  rintro x w3 ⟨hx3, hE3⟩
  have hE03 := hE02.trans hE3
  refine cond_not (fun hf => ⟨?_, hE03⟩) (fun ht => ?_)
  · simp only [Bool.false_eq_true, false_iff]
    intro hg
    rw [hx3.2 hg.inputs] at hf; cases hf
  have hin := hx3.1 ht
  have := isNetwork_k1 (h2.ext hE3) (hb2.ext hE3) hE03
  have heq : (∀ v < n.ends.length, RowOk n.ends v) ↔ Good n := ⟨fun h => ⟨by omega, hids, hin, h⟩, fun h => h.rows⟩
  rw [heq] at this
  exact this

theorem neGood_k1 {w w0 : World} {a b c : Sl} {n : Net} (h : RNet w a b c n) {p : Addr} {t : TypeId} (hb : Box w p t [a.v, b.v, c.v]) (hE0 : Ext w0 w) :
    V_s_neGood_k1 (fun x w' => (x = true ↔ ∀ v < n.ends.length, RowOk n.ends v) ∧ Ext w0 w') p w := by
  unfold V_s_neGood_k1
  refine LD_bs0 hb ?_
  rw [h.1.len]
  have hN := h.1.le
  refine ⟨IN n.ends.length fun v w' => InvR n.ends w w' v, MN n.ends.length, IN_zero ⟨Ext.refl _, fun u hu => absurd hu (by omega)⟩, ?_⟩
  rintro _ w1 ⟨v, rfl, hv, hE1, hI⟩
  intros
  refine cond_dec (fun hlt => ?_) (fun hge => ⟨?_, hE0.trans hE1⟩)
  · have hv' : v < n.ends.length := by omega
    refine (h.ext hE1).1.ixL hv' fun q s hR hc => LD_sl hc ?_
    rw [hR.len]
    refine cond_dec (fun hgt => ⟨?_, hE0.trans hE1⟩) (fun hle => ?_)
    · simp only [Bool.false_eq_true, false_iff]
      intro hall
      have := (hall v hv').1 n.ends[v] (by simp [hv'])
      omega
    · refine ⟨IN n.ends[v].length fun i w' => Ext w1 w' ∧ InvP n.ends w w' v i, MN n.ends[v].length, IN_zero ⟨Ext.refl _, ⟨hE1, hI⟩, fun u hu => absurd hu (by omega)⟩, ?_⟩
      rintro _ w2 ⟨i, rfl, hi, hE12, ⟨hE2, _⟩, hJ⟩
      intros
      refine cond_dec (fun hlt2 => ?_) (fun hge2 => ?_)
      · have hi' : i < n.ends[v].length := by omega
        refine (hR.ext hE12).ixE hi' fun q h1 h2 hc0 hc1 => LD_int2 hc0 hc1 ?_
        refine NEW_ST (one2 _ _) rfl fun p6 w3 hp6 hE3 hb6 => ?_
        have hE03 := hE2.trans hE3
        have hbk : Back n.ends v i n.ends[v][i] ↔ portZ n.ends n.ends[v][i].1 n.ends[v][i].2 = some ((v : Int), (i : Int)) := back_iff (x := n.ends[v][i].1) (y := n.ends[v][i].2)
        have hfail : ¬ Back n.ends v i n.ends[v][i] → ¬ ∀ v < n.ends.length, RowOk n.ends v := fun hn hall => hn ((hall v hv').2 i _ (port_get hv' hi'))
        refine LD_bi0 hb6 (LD_bs0 (hb.ext hE03) ?_)
        rw [h.1.len, wrap_of (by omega) (by omega)]
        refine QCALL_bool _ (fun w' hw' => call (l1In_ok _ _ _ _) (by rintro b _ ⟨rfl, rfl⟩; exact ⟨rfl, Ext.refl _⟩)) ?_
        refine cond_not (fun hf w4 hE4 => ⟨?_, hE0.trans (hE03.trans hE4)⟩) (fun ht => ?_)
        · simp only [Bool.false_eq_true, false_iff]
          refine hfail fun hB => inR_false hf ?_
          obtain ⟨x, y, he, hp'⟩ := hB
          obtain ⟨hx', _⟩ := port_some hp'
          rw [he]; simp only; omega
        obtain ⟨x, hx⟩ := Int.eq_ofNat_of_zero_le (inR_true ht).1
        have hx' : x < n.ends.length := by have := (inR_true ht).2; omega
        refine LD_bi1 hb6 (LD_bs0 (hb.ext hE03) (LD_bi0 hb6 ?_))
        rw [hx] at hbk ⊢
        refine (h.ext hE03).1.ixL hx' fun q s2 hR2 hc => LD_sl hc ?_
        have hl2 := hR2.le
        rw [hR2.len, wrap_of (by omega) (by omega)]
        refine QCALL_bool _ (fun w' hw' => call (l1In_ok _ _ _ _) (by rintro b _ ⟨rfl, rfl⟩; exact ⟨rfl, Ext.refl _⟩)) ?_
        refine cond_not (fun hf w4 hE4 => ⟨?_, hE0.trans (hE03.trans hE4)⟩) (fun ht => ?_)
        · simp only [Bool.false_eq_true, false_iff]
          refine hfail fun hB => inR_false hf ?_
          obtain ⟨x', y', he, hp'⟩ := hB
          obtain ⟨_, hy', _⟩ := port_some hp'
          have hxx : x' = x := by have := congrArg Prod.fst he; rw [hx] at this; simp at this; omega
          subst hxx
          rw [he]; simp only; omega
        obtain ⟨y, hy⟩ := Int.eq_ofNat_of_zero_le (inR_true ht).1
        have hy' : y < n.ends[x].length := by have := (inR_true ht).2; omega
        rw [hx, hy] at hb6
        refine LD_bs0 (hb.ext hE03) (LD_bi0 hb6 ?_)
        refine (h.ext hE03).1.ixL hx' fun q s2 hR2 hc => LD_sl hc ?_
        refine LD_bi1 hb6 ?_
        refine hR2.ixE hy' fun q _ _ hc0 hc1 => LD_int2 hc0 hc1 ?_
        refine AEQ_neq2 end_struct ?_
        intro w4 hE4
        have hE04 := hE03.trans hE4
        rw [hy, portZ_nat, port_get hx' hy'] at hbk
        have hbk' : Back n.ends v i n.ends[v][i] ↔ (n.ends[x][y].1, n.ends[x][y].2) = ((v : Int), (i : Int)) := hbk.trans (by simp [Prod.ext_iff])
        refine cond_not (fun hf => ⟨?_, hE0.trans hE04⟩) (fun ht => ?_)
        · simp only [Bool.false_eq_true, false_iff]
          exact hfail fun hB => (decide_eq_false_iff_not.1 hf) (hbk'.1 hB)
        · refine IN_next (by have := hR.le; omega) hi' ⟨hE12.trans (hE3.trans hE4), ⟨hE04, hI⟩, fun j hj e he => ?_⟩
          rcases Nat.lt_or_eq_of_le (Nat.le_of_lt_succ hj) with h5 | h5
          · exact hJ j h5 e he
          · subst h5
            rw [port_get hv' hi'] at he
            cases he
            exact hbk'.2 (decide_eq_true_iff.1 ht)
      · refine IN_next hN hv' ⟨hE2, fun u hu => ?_⟩
        rcases Nat.lt_or_eq_of_le (Nat.le_of_lt_succ hu) with h5 | h5
        · exact hI u h5
        · subst h5
          refine ⟨fun r hr => ?_, fun j e he => ?_⟩
          · simp [hv'] at hr; subst hr; omega
          · obtain ⟨_, hj, _⟩ := port_some he
            exact hJ j (by omega) e he
  · simp only [true_iff]
    exact fun u hu => hI u (by omega)

theorem neGood_ok {w : World} {a b c : Sl} {n : Net} (h : RNet w a b c n) :
    Calls Tryd.prog F.s_neGood #[.agg #[a.v, b.v, c.v]] w (Ret [.at .bool] fun (x : Bool) w' => (x = true ↔ Good n) ∧ Ext w w') := by
  refine C_s_neGood ?_
  unfold V_s_neGood
  refine NEW_intro fun p w1 hp hs hE1 hb1 => LD_bs0 hb1 ?_
  have h1 := h.ext hE1
  rw [h1.1.len]
  refine call (l1In_ok _ _ _ _) ?_
  rintro x _ ⟨rfl, rfl⟩
  refine cond_not (fun hf => ⟨?_, hE1⟩) (fun ht => ?_)
  · simp only [Bool.false_eq_true, false_iff]
    intro hg
    exact inR_false hf (by have := hg.size; omega)
  have hsz := inR_true ht
  refine LD_bs1 hb1 (LD_bs0 hb1 ?_)
  rw [h1.1.len]
  refine call (neIds_ok h1.2.1 _) ?_
  rintro x _ ⟨hx2, rfl⟩
  refine cond_not (fun hf => ⟨?_, hE1⟩) (fun ht => ?_)
  · simp only [Bool.false_eq_true, false_iff]
    intro hg
    rw [hx2.2 hg.ids] at hf; cases hf
  have hids := hx2.1 ht
  refine LD_bs2 hb1 (LD_bs0 hb1 ?_)
  rw [h1.1.len, h1.2.2.len]
  refine cond_ne (fun hne => ⟨?_, hE1⟩) (fun heq => ?_)
  · simp only [Bool.false_eq_true, false_iff]
    intro hg
    have := hg.inputs.1
    omega
  refine LD_bs2 hb1 ?_
  refine call (l1All_ok h1.2.2 _ _) ?_
  rintro x _ ⟨hx3, rfl⟩
  refine cond_not (fun hf => ⟨?_, hE1⟩) (fun ht => ?_)
  · simp only [Bool.false_eq_true, false_iff]
    intro hg
    rw [hx3.2 hg.inputs.2] at hf; cases hf
  have hin := hx3.1 ht
  have := neGood_k1 h1 hb1 hE1
  have heq : (∀ v < n.ends.length, RowOk n.ends v) ↔ Good n := ⟨fun h => ⟨by omega, hids, ⟨by omega, hin⟩, h⟩, fun h => h.rows⟩
  rw [heq] at this
  exact this

/-- Two answers of a test: the answer, and whether it was asked rightly. -/
def Ans2 (g p : Prop) (x ok : Bool) : Prop := (x = true ↔ g ∧ p) ∧ (ok = true ↔ g)

theorem Ans2.eq {g p : Prop} {x ok x' ok' : Bool} (h : Ans2 g p x ok) (h' : Ans2 g p x' ok') : x = x' ∧ ok = ok' :=
  ⟨Bool.eq_iff_iff.2 (h.1.trans h'.1.symm), Bool.eq_iff_iff.2 (h.2.trans h'.2.symm)⟩

theorem Ans2.no {g p : Prop} (h : ¬ g) : Ans2 g p false false := ⟨by simp [h], by simp [h]⟩
theorem Ans2.mk {g p : Prop} {x : Bool} (h : g) (hx : x = true ↔ p) : Ans2 g p x true := ⟨by simp [h, hx], by simp [h]⟩

end Go.Proofs.YtaeledhbkdakcaaDoor
end

section
/- What a node's neighbours bear: both sides' walks over ports; the tests IsDefective and IsWeak. -/
namespace Go.Proofs.YtaeledhbkdakcaaDoor
open Go.GX Go.RowKit
set_option maxRecDepth 100000

def rowOf (E : Ends) (v : Nat) : List (Int × Int) := E.getD v []
/-- The nodes at the far ends of a node's ports. -/
def adjOf (E : Ends) (v : Nat) : List Int := (rowOf E v).map (·.1)

theorem Good.far {n : Net} (hg : Good n) {v i : Nat} (hv : v < n.ends.length) (hi : i < n.ends[v].length) : ∃ x y : Nat, n.ends[v][i] = ((x : Int), (y : Int)) ∧ x < n.ends.length ∧ port n.ends x y = some ((v : Int), (i : Int)) := by
  obtain ⟨x, y, hxy, hb⟩ := hg.back hv hi
  obtain ⟨hx, _⟩ := port_some hb
  exact ⟨x, y, hxy, hx, hb⟩

/-! ### Colours -/

structure ColoursOk (n : Net) (l : List Int) : Prop where
  good : Good n
  len : l.length = n.ends.length
  all : AllIn l 0 1000000000000

/-! ### IsDefective -/

/-! ### IsWeak -/

end Go.Proofs.YtaeledhbkdakcaaDoor
end

section
/- Distances in a network, and the search that finds them, in plain words: no program in sight. -/
namespace Go.Proofs.YtaeledhbkdakcaaDoor

/-- A walk of k steps from v to x. -/
def Reach (E : Ends) (v : Nat) : Nat → Nat → Prop
  | 0, x => x = v
  | k + 1, x => ∃ y, Reach E v k y ∧ (x : Int) ∈ adjOf E y

/-- The list of all distances from v: -1 where no walk leads. -/
structure Dists (E : Ends) (v : Nat) (D : List Int) : Prop where
  len : D.length = E.length
  low : ∀ u, -1 ≤ D.getD u (-1)
  sound : ∀ u d : Nat, D.getD u (-1) = d → Reach E v d u
  least : ∀ k x, Reach E v k x → 0 ≤ D.getD x (-1) ∧ D.getD x (-1) ≤ k

theorem Dists.eq {E : Ends} {v : Nat} {D D' : List Int} (h : Dists E v D) (h' : Dists E v D') : D = D' := by
  have key : ∀ {A B : List Int}, Dists E v A → Dists E v B → ∀ u, 0 ≤ A.getD u (-1) → 0 ≤ B.getD u (-1) ∧ B.getD u (-1) ≤ A.getD u (-1) := by
    intro A B hA hB u hu
    obtain ⟨d, hd⟩ := Int.eq_ofNat_of_zero_le hu
    have := hB.least d u (hA.sound u d hd)
    rw [hd]
    exact this
  apply List.ext_getElem (by rw [h.len, h'.len])
  intro i h1 h2
  have e1 : D.getD i (-1) = D[i] := by simp [h1]
  have e2 : D'.getD i (-1) = D'[i] := by simp [h2]
  rw [← e1, ← e2]
  have l1 := h.low i
  have l2 := h'.low i
  by_cases hu : 0 ≤ D.getD i (-1)
  · have k1 := key h h' i hu
    have k2 := key h' h i k1.1
    omega
  · by_cases hu' : 0 ≤ D'.getD i (-1)
    · have k2 := key h' h i hu'
      omega
    · omega

/-- The distance of the queue's i-th node. -/
def dv (D W : List Int) (i : Nat) : Int := D.getD (W.getD i 0).toNat (-1)

/-- The search's state: the nodes found so far, in order; their distances; how many have been looked at. -/
structure Bfs (E : Ends) (v : Nat) (W D : List Int) (k : Nat) : Prop where
  len : D.length = E.length
  le : k ≤ W.length
  nodes : ∀ x ∈ W, ∃ u : Nat, x = u ∧ u < E.length
  nodup : W.Nodup
  mem : ∀ u : Nat, u < E.length → ((u : Int) ∈ W ↔ 0 ≤ D.getD u (-1))
  root : (v : Int) ∈ W
  zero : D.getD v (-1) = 0
  low : ∀ u, -1 ≤ D.getD u (-1)
  sound : ∀ u d : Nat, D.getD u (-1) = d → Reach E v d u
  mono : ∀ i j, i ≤ j → j < W.length → dv D W i ≤ dv D W j
  cap : k < W.length → ∀ j < W.length, dv D W j ≤ dv D W k + 1
  done : ∀ i < k, ∀ u : Nat, (u : Int) ∈ adjOf E (W.getD i 0).toNat → 0 ≤ D.getD u (-1) ∧ D.getD u (-1) ≤ dv D W i + 1
  small : ∀ u, D.getD u (-1) < W.length

theorem getD_set {D : List Int} {y : Nat} (hy : y < D.length) (x : Int) (u : Nat) : (D.set y x).getD u (-1) = if u = y then x else D.getD u (-1) := by
  by_cases h : u = y
  · subst h; simp [hy]
  · simp [h, List.getElem?_set_ne (Ne.symm h)]

section
variable {E : Ends} {v k : Nat} {W D : List Int}

theorem Bfs.node (h : Bfs E v W D k) {i : Nat} (hi : i < W.length) : ∃ u : Nat, W[i] = u ∧ W.getD i 0 = u ∧ u < E.length ∧ 0 ≤ D.getD u (-1) ∧ dv D W i = D.getD u (-1) := by
  obtain ⟨u, hu, hul⟩ := h.nodes W[i] (List.getElem_mem hi)
  have hg : W.getD i 0 = u := by simp [hi, hu]
  refine ⟨u, hu, hg, hul, (h.mem u hul).1 (by rw [← hu]; exact List.getElem_mem hi), ?_⟩
  unfold dv
  rw [hg]
  simp

/-- A neighbour that is found now. -/
theorem Bfs.add (h : Bfs E v W D k) (hk : k < W.length) {y : Nat} (hy : y < E.length) (ha : (y : Int) ∈ adjOf E (W.getD k 0).toNat) (hn : D.getD y (-1) < 0) :
    Bfs E v (W ++ [(y : Int)]) (D.set y (dv D W k + 1)) k := by
  have hyD : y < D.length := by rw [h.len]; exact hy
  have hg := getD_set hyD (dv D W k + 1)
  obtain ⟨c, _, hck, hcl, hc0, hcd⟩ := h.node hk
  have hdk : 0 ≤ dv D W k := by omega
  have hold : ∀ i, i < W.length → (W ++ [(y : Int)]).getD i 0 = W.getD i 0 := by
    intro i hi
    simp [List.getElem?_append_left hi]
  have hnew : (W ++ [(y : Int)]).getD W.length 0 = y := by simp
  have hdo : ∀ i, i < W.length → dv (D.set y (dv D W k + 1)) (W ++ [(y : Int)]) i = dv D W i := by
    intro i hi
    obtain ⟨u, _, hu, _, hu0, hud⟩ := h.node hi
    show (D.set y (dv D W k + 1)).getD ((W ++ [(y : Int)]).getD i 0).toNat (-1) = D.getD (W.getD i 0).toNat (-1)
    rw [hold i hi, hu, hg]
    simp only [Int.toNat_natCast]
    rw [if_neg (fun he => by subst he; omega)]
  have hdn : dv (D.set y (dv D W k + 1)) (W ++ [(y : Int)]) W.length = dv D W k + 1 := by
    show (D.set y (dv D W k + 1)).getD ((W ++ [(y : Int)]).getD W.length 0).toNat (-1) = _
    rw [hnew, hg]; simp
  have hyW : (y : Int) ∉ W := fun hm => by have := (h.mem y hy).1 hm; omega
  refine ⟨by simp [h.len], by have := h.le; simp; omega, ?_, ?_, ?_, by simp [h.root], ?_, ?_, ?_, ?_, ?_, ?_, ?_⟩
  · intro x hx
    rcases List.mem_append.1 hx with h1 | h1
    · exact h.nodes x h1
    · exact ⟨y, by simpa using h1, hy⟩
  · rw [List.nodup_append]
    refine ⟨h.nodup, by simp, fun a ha b hb hab => ?_⟩
    rw [List.mem_singleton.1 hb] at hab
    subst hab
    exact hyW ha
  · intro u hu
    rw [hg, List.mem_append, h.mem u hu]
    by_cases he : u = y
    · subst he; simp; omega
    · simp [he]
      omega
  · rw [hg]
    have := h.zero
    rw [if_neg (fun he => by subst he; omega)]
    exact h.zero
  · intro u
    rw [hg]
    split
    · omega
    · exact h.low u
  · intro u d hd
    rw [hg] at hd
    split at hd
    · rename_i he
      subst he
      obtain ⟨e, he⟩ := Int.eq_ofNat_of_zero_le hdk
      obtain rfl : d = e + 1 := by omega
      refine ⟨c, h.sound c e (by rw [← hcd]; exact he), ?_⟩
      rw [hck] at ha
      simpa using ha
    · exact h.sound u d hd
  · intro i j hij hj
    simp at hj
    rcases Nat.lt_or_eq_of_le (Nat.le_of_lt_succ hj) with h1 | h1
    · rw [hdo i (by omega), hdo j h1]; exact h.mono i j hij h1
    · subst h1
      rw [hdn]
      rcases Nat.lt_or_eq_of_le hij with h2 | h2
      · rw [hdo i h2]; exact h.cap hk i h2
      · subst h2; rw [hdn]; exact Int.le_refl _
  · intro _ j hj
    simp at hj
    rw [hdo k hk]
    rcases Nat.lt_or_eq_of_le (Nat.le_of_lt_succ hj) with h1 | h1
    · rw [hdo j h1]; exact h.cap hk j h1
    · subst h1; rw [hdn]; exact Int.le_refl _
  · intro i hi u hu
    rw [hold i (by omega)] at hu
    have := h.done i hi u hu
    rw [hdo i (by omega), hg]
    rw [if_neg (fun he => by subst he; omega)]
    exact this
  · intro u
    rw [hg]
    have h1 := h.small u
    have h2 := h.small c
    simp only [List.length_append, List.length_singleton]
    push_cast
    split <;> omega

/-- All neighbours have been looked at. -/
theorem Bfs.next (h : Bfs E v W D k) (hk : k < W.length) (ha : ∀ u : Nat, (u : Int) ∈ adjOf E (W.getD k 0).toNat → 0 ≤ D.getD u (-1) ∧ D.getD u (-1) ≤ dv D W k + 1) : Bfs E v W D (k + 1) :=
  { h with
    le := hk
    cap := fun hk' j hj => by
      have h1 := h.cap hk j hj
      have h2 := h.mono k (k + 1) (by omega) hk'
      omega
    done := fun i hi u hu => by
      rcases Nat.lt_or_eq_of_le (Nat.le_of_lt_succ hi) with h1 | h1
      · exact h.done i h1 u hu
      · subst h1; exact ha u hu }

theorem adj_lt {y x : Nat} (h : (x : Int) ∈ adjOf E y) : y < E.length := by
  by_cases hy : y < E.length
  · exact hy
  · unfold adjOf rowOf at h
    simp [hy] at h

theorem Bfs.end (h : Bfs E v W D W.length) : Dists E v D := by
  refine ⟨h.len, h.low, h.sound, ?_⟩
  intro j
  induction j with
  | zero =>
    intro x hx
    have hx' : x = v := hx
    subst hx'
    rw [h.zero]
    exact ⟨by omega, by omega⟩
  | succ j ih =>
    rintro x ⟨y, hy, hx⟩
    have hyl := adj_lt hx
    obtain ⟨h0, h1⟩ := ih y hy
    obtain ⟨i, hi, hiy⟩ := List.mem_iff_getElem.1 ((h.mem y hyl).2 h0)
    obtain ⟨u, hu, hug, _, _, hd⟩ := h.node hi
    obtain rfl : u = y := by rw [hiy] at hu; omega
    have := h.done i hi x (by rw [hug]; simpa using hx)
    rw [hd] at this
    refine ⟨this.1, ?_⟩
    have h2 := this.2
    push_cast
    omega

theorem nodup_length : ∀ (n : Nat) (l : List Nat), l.Nodup → (∀ x ∈ l, x < n) → l.length ≤ n
  | 0, l, _, h => by
    cases l with
    | nil => simp
    | cons x r => exact absurd (h x (by simp)) (by omega)
  | n + 1, l, hd, h => by
    have h1 := nodup_length n (l.erase n) (hd.erase n) (fun x hx => by
      have hm := (hd.mem_erase_iff).1 hx
      have := h x hm.2
      omega)
    have h2 : l.length ≤ (l.erase n).length + 1 := by
      rw [List.length_erase]
      split <;> omega
    omega

theorem Bfs.size (h : Bfs E v W D k) : W.length ≤ E.length := by
  have := nodup_length E.length (W.map Int.toNat) (by
    rw [List.nodup_iff_pairwise_ne, List.pairwise_map]
    refine (List.nodup_iff_pairwise_ne.1 h.nodup).imp_of_mem ?_
    intro a b ha hb hab he
    obtain ⟨x, rfl, _⟩ := h.nodes a ha
    obtain ⟨y, rfl, _⟩ := h.nodes b hb
    simp at he
    exact hab (by omega)) (by
    intro x hx
    obtain ⟨a, ha, rfl⟩ := List.mem_map.1 hx
    obtain ⟨u, rfl, hu⟩ := h.nodes a ha
    simpa using hu)
  simpa using this
end

end Go.Proofs.YtaeledhbkdakcaaDoor
end

section
/- Lists by their places. No program in sight. -/
namespace Go.Proofs.YtaeledhbkdakcaaDoor
set_option maxRecDepth 100000

/-! ### Places around a cycle -/

abbrev at0 (l : List Int) (i : Nat) : Int := l.getD i 0
theorem at0_get {l : List Int} {i : Nat} (h : i < l.length) : at0 l i = l[i] := by unfold at0; rw [List.getD_eq_getElem?_getD, List.getElem?_eq_getElem h]; rfl
/-- A list made place by place. -/
def mk0 (k : Nat) (f : Nat → Int) : List Int := (List.range k).map f
theorem at0_set {l : List Int} {i j : Nat} {x : Int} (hi : i < l.length) : at0 (l.set i x) j = if i = j then x else at0 l j := by
  unfold at0
  rw [List.getD_eq_getElem?_getD, List.getD_eq_getElem?_getD, List.getElem?_set]
  by_cases e : i = j
  · subst e; rw [if_pos rfl, if_pos rfl, if_pos hi]; rfl
  · rw [if_neg e, if_neg e]

end Go.Proofs.YtaeledhbkdakcaaDoor
end

section
/- Edges: both sides' lists of them, and searching in lists of numbers, ends and edges. -/
namespace Go.Proofs.YtaeledhbkdakcaaDoor
open Go.GX Go.RowKit
set_option maxRecDepth 100000

abbrev Edge := Int × Int × Int × Int

/-- The port of an edge that bears it: the lesser of its two ends. -/
def isFirst (v i : Nat) (e : Int × Int) : Bool := decide ((v : Int) < e.1) || ((v : Int) == e.1 && decide ((i : Int) ≤ e.2))

def portE (E : Ends) (v i : Nat) : List Edge := match port E v i with
  | some e => if isFirst v i e then [((v : Int), (i : Int), e.1, e.2)] else []
  | none => []
def rowE (E : Ends) (v : Nat) : Nat → List Edge
  | 0 => []
  | i + 1 => rowE E v i ++ portE E v i
def edgesTo (E : Ends) : Nat → List Edge
  | 0 => []
  | v + 1 => edgesTo E v ++ rowE E v (rowOf E v).length
def edgesOf (E : Ends) : List Edge := edgesTo E E.length

/-! ### Searching -/

def Found {α : Type} (l : List α) (p : α → Bool) (i : Int) : Prop := match l.findIdx? p with | some k => i = k | none => i = -1

theorem found_at {α : Type} {l : List α} {p : α → Bool} {i : Nat} (hi : i < l.length) (ha : ∀ x ∈ l.take i, p x = false) (ht : p l[i] = true) : Found l p i := by
  have : l.findIdx? p = some i := by
    rw [List.findIdx?_eq_some_iff_getElem]
    refine ⟨hi, ht, fun j hj => ?_⟩
    have := ha l[j] (by rw [List.mem_take_iff_getElem]; exact ⟨j, by omega, rfl⟩)
    simp [this]
  unfold Found
  rw [this]

theorem found_no {α : Type} {l : List α} {p : α → Bool} (ha : ∀ x ∈ l, p x = false) : Found l p (-1) := by
  have : l.findIdx? p = none := List.findIdx?_eq_none_iff.2 ha
  unfold Found
  rw [this]

theorem none_succ {α : Type} {l : List α} {p : α → Bool} {i : Nat} (hi : i < l.length) (ha : ∀ x ∈ l.take i, p x = false) (hf : p l[i] = false) : ∀ x ∈ l.take (i + 1), p x = false := by
  intro y hy
  rw [List.take_succ_eq_append_getElem hi] at hy
  rcases List.mem_append.1 hy with h1 | h1
  · exact ha y h1
  · rw [List.mem_singleton.1 h1]; exact hf

end Go.Proofs.YtaeledhbkdakcaaDoor
end

section
/- Proper colourings: both sides' tests. -/
namespace Go.Proofs.YtaeledhbkdakcaaDoor
open Go.GX Go.RowKit
set_option maxRecDepth 100000

/-- Two nodes with an edge between them, the lesser first, that bear the same. -/
def Clash (E : Ends) (l : List Int) : Prop := ∃ v u : Nat, v ≤ u ∧ v < E.length ∧ u < E.length ∧ (u : Int) ∈ adjOf E v ∧ l.getD v 0 = l.getD u 0

def Proper (n : Net) (l : List Int) : Prop := l.length = n.ends.length ∧ AllIn l 0 1000000000000 ∧ ¬ Clash n.ends l

end Go.Proofs.YtaeledhbkdakcaaDoor
end

section
/- Matchings: both sides' tests, and the law IsMatching. -/
namespace Go.Proofs.YtaeledhbkdakcaaDoor
open Go.GX Go.RowKit
set_option maxRecDepth 100000

/-- Node v and its mate agree. -/
def MAt (E : Ends) (m : List Int) (v : Nat) : Prop :=
  ∀ x, m[v]? = some x → x = -1 ∨ ∃ e, portZ E v x = some e ∧ e.1 ≠ v ∧ ∃ u : Nat, e.1 = u ∧ m[u]? = some e.2

def MatchOk (E : Ends) (m : List Int) : Prop := m.length = E.length ∧ ∀ v < m.length, MAt E m v

end Go.Proofs.YtaeledhbkdakcaaDoor
end

section
/- Sets of nodes and matchings: both sides' tests of independence, covers, maximality; sizes of matchings. -/
namespace Go.Proofs.YtaeledhbkdakcaaDoor
open Go.GX Go.RowKit
set_option maxRecDepth 100000

structure SetOk (n : Net) (l : List Int) : Prop where
  good : Good n
  rising : Rising l 0 (n.ends.length - 1)

theorem SetOk.node {n : Net} {l : List Int} (h : SetOk n l) : ∀ x ∈ l, ∃ u : Nat, x = u ∧ u < n.ends.length := by
  intro x hx
  have := h.rising.1 x hx
  exact ⟨x.toNat, by omega, by omega⟩

/-! ### Independent sets -/

/-! ### Covers -/

end Go.Proofs.YtaeledhbkdakcaaDoor
end

section
/- Maximal matchings and maximal independent sets; sizes of matchings. -/
namespace Go.Proofs.YtaeledhbkdakcaaDoor
open Go.GX Go.RowKit
set_option maxRecDepth 100000

/-! ### Matchings that are asked rightly, and their size -/

structure MatchAsked (n : Net) (m : List Int) : Prop where
  good : Good n
  is : MatchOk n.ends m

/-- How many numbers are not negative. -/
def nonneg (l : List Int) : Nat := l.countP fun x => decide (x ≥ 0)

theorem nonneg_take_succ {l : List Int} {i : Nat} (hi : i < l.length) : nonneg (l.take (i + 1)) = nonneg (l.take i) + if l[i] ≥ 0 then 1 else 0 := by
  unfold nonneg
  rw [List.take_succ_eq_append_getElem hi, List.countP_append, List.countP_singleton]
  simp

theorem nonneg_le {l : List Int} {i : Nat} : nonneg (l.take i) ≤ i := Nat.le_trans (List.countP_le_length) (by simp; omega)

def half (k : Nat) : Int := IntKind.i64.wrap (Int.tdiv k 2)

/-- An answer that is a number, and whether it was asked rightly. -/
def AnsI (g : Prop) (k : Int) (x : Int) (ok : Bool) : Prop := (ok = true ↔ g) ∧ (g → x = k) ∧ (¬ g → x = 0)

theorem AnsI.eq {g : Prop} {k x x' : Int} {ok ok' : Bool} (h : AnsI g k x ok) (h' : AnsI g k x' ok') : x = x' ∧ ok = ok' := by
  refine ⟨?_, Bool.eq_iff_iff.2 (h.1.trans h'.1.symm)⟩
  by_cases hg : g
  · rw [h.2.1 hg, h'.2.1 hg]
  · rw [h.2.2 hg, h'.2.2 hg]

theorem AnsI.no {g : Prop} {k : Int} (h : ¬ g) : AnsI g k 0 false := ⟨by simp [h], fun h1 => absurd h1 h, fun _ => rfl⟩
theorem AnsI.mk {g : Prop} {k x : Int} (h : g) (hx : x = k) : AnsI g k x true := ⟨by simp [h], fun _ => hx, fun h1 => absurd h h1⟩

theorem mtSize_ok {w : World} {s : Sl} {l : List Int} (hl : R w s l) (hlen : l.length ≤ 1048576) :
    Calls Tryd.prog F.s_mtSize #[s.v] w (Ret [.at (.int .i64)] fun (x : Int) w' => x = half (nonneg l) ∧ w = w') := by
  refine C_s_mtSize ?_
  unfold V_s_mtSize
  rw [hl.len]
  refine ⟨IN2 l.length fun i k w' => w = w' ∧ k = (nonneg (l.take i) : Nat), MN2 l.length, IN2_zero ⟨rfl, by simp [nonneg]⟩, ?_⟩
  rintro _ _ w3 ⟨i, rfl, hi, rfl, rfl⟩
  intros
  refine cond_dec (fun hlt => ?_) (fun hge => ?_)
  · have hi' : i < l.length := by omega
    have := nonneg_le (l := l) (i := i)
    refine hl.ixI hi' fun q _ hc => LD_int hc ?_
    refine cond_dec (fun h1 => IN2_next hl.le hi' ⟨rfl, ?_⟩) (fun h1 => IN2_next hl.le hi' ⟨rfl, ?_⟩)
    · rw [nonneg_take_succ hi', wrap_of (by omega) (by omega)]; simp [h1]
    · rw [nonneg_take_succ hi']; simp [h1]
  · have : i = l.length := by omega
    subst this
    refine ⟨by decide, ?_, rfl⟩
    simp [half]

/-! ### Maximal matchings -/

/-- An edge that could be added: two nodes, both free. -/
def FreeEdge (l : List Int) (q : Edge) : Prop := q.1 ≠ q.2.2.1 ∧ l.getD q.1.toNat 0 < 0 ∧ l.getD q.2.2.1.toNat 0 < 0
instance (l : List Int) (q : Edge) : Decidable (FreeEdge l q) := by unfold FreeEdge; exact inferInstance
def Maximal (n : Net) (l : List Int) : Prop := ∀ q ∈ edgesOf n.ends, ¬ FreeEdge l q

/-! ### Maximal independent sets -/

end Go.Proofs.YtaeledhbkdakcaaDoor
end

section
/- Slices that may be written, whatever they hold: the marks that a law leaves in its arguments and answers. No program is named here. -/
namespace Go.GX
open Go.RowKit

/-- Each cell of the slice may be written. -/
def Wr (w : World) (s : Sl) (sz : Nat) : Prop := ∀ j, j < s.len * sz → ∃ a, s.a = some a ∧ (∃ old, w.cell? (a.add j) = some old) ∧ w.frozen? (a.add j) = false

/-- No cell goes, none is frozen. -/
def Shp (w w' : World) : Prop := (∀ a old, w.cell? a = some old → ∃ new, w'.cell? a = some new) ∧ ∀ a, w.frozen? a = false → (∃ old, w.cell? a = some old) → w'.frozen? a = false

theorem Shp.refl (w : World) : Shp w w := ⟨fun _ old h => ⟨old, h⟩, fun _ h _ => h⟩
theorem Shp.trans {a b c : World} (h : Shp a b) (k : Shp b c) : Shp a c :=
  ⟨fun p old hp => by obtain ⟨n, hn⟩ := h.1 p old hp; exact k.1 p n hn, fun p hf ⟨old, hp⟩ => k.2 p (h.2 p hf ⟨old, hp⟩) (h.1 p old hp)⟩
theorem Shp.setCell (w : World) (p : Addr) (v : Value) : Shp w (w.setCell p v) :=
  ⟨fun a old h => by
    by_cases hp : p = a
    · subst hp; exact ⟨v, World.cell?_setCell_same w p v h⟩
    · exact ⟨old, by rw [World.cell?_setCell_other w p a v hp]; exact h⟩, fun a h _ => by rw [World.frozen?_setCell]; exact h⟩
theorem Shp.ext {w w' : World} (h : Ext w w') : Shp w w' :=
  ⟨fun a old ho => ⟨old, h.cell ho⟩, fun a hf ⟨old, ho⟩ => by
    have hb : w'.heap[a.block]? = w.heap[a.block]? := h.same (cell_lt ho)
    unfold World.frozen? at hf ⊢
    rw [hb]; exact hf⟩

theorem Wr.shp {w w' : World} {s : Sl} {sz : Nat} (h : Wr w s sz) (hs : Shp w w') : Wr w' s sz := fun j hj => by
  obtain ⟨a, ha, ⟨old, hc⟩, hf⟩ := h j hj
  exact ⟨a, ha, hs.1 _ _ hc, hs.2 _ hf ⟨old, hc⟩⟩

theorem OwnL.wr {α : Type} [Flat α] {w : World} {base : Nat} {e : TypeId} {s : Sl} {l : List α} (h : OwnL w base e s l) : Wr w s (Rep.sz α) := fun j hj => by
  rcases h.2.2 with ⟨hv, h0⟩ | ⟨g, cap, cur, hv, hb, hg, hle, _, hsz, htake⟩
  · rw [h0] at hj; simp at hj
  · simp [Sl.v] at hv
    obtain ⟨ha, rfl⟩ := hv
    have hlen := h.2.length
    have hlt : j < (l.flatMap Flat.cells).length := by rw [hlen]; exact hj
    have hown : w.ownsRow base e (Rep.sz α) s.v s.len (l.flatMap Flat.cells) := h.2
    refine ⟨_, ha, ⟨_, World.ownsRow.cells hown (g := g) (by simp [Sl.v, ha, Value.ownBlock]) j _ (List.getElem?_eq_getElem hlt)⟩, ?_⟩
    simp [World.frozen?, add_block, hg]

/-- The block of a slice. -/
def blkOf (s : Sl) (b : Nat) : Prop := ∃ a, s.a = some a ∧ a.block = b

/-- One cell written. -/
theorem ST_wr1 {w : World} {s : Sl} {sz i : Nat} (h : Wr w s sz) {a : Addr} (ha : s.a = some a) {p : Addr} {k : Nat} (hp : p.add k = a.add i) (hi : i < s.len * sz) {v : Value} (h1 : v.oneCell' = true) {K : World → Prop}
    (hk : ∀ w', Shp w w' → Chg w w' (blkOf s) → w'.heap.size = w.heap.size → K w') : ST p k [v] w K := by
  obtain ⟨a', ha', hc, hf⟩ := h i hi
  rw [ha] at ha'; cases ha'
  refine ⟨h1, by rw [hp]; exact hc, by rw [hp]; exact hf, ?_⟩
  rw [hp]
  refine hk _ (Shp.setCell _ _ _) ⟨rfl, rfl, rfl, by rw [setCell_size]; exact Nat.le_refl _, fun b _ hD => ?_⟩ (setCell_size _ _ _)
  refine setCell_other _ _ _ fun he => hD ⟨a, ha, ?_⟩
  rw [he, add_block]

theorem IX_wr {w : World} {s : Sl} {sz i : Nat} (h : Wr w s sz) (hsz : 0 < sz) (hi : i < s.len) {K : Addr → Prop} (hk : ∀ a, s.a = some a → K (a.add (i * sz))) : IX s i sz K := by
  have hj : i * sz < s.len * sz := Nat.mul_lt_mul_of_pos_right hi hsz
  obtain ⟨a, ha, _⟩ := h _ hj
  exact ⟨a, ha, by omega, by omega, by simpa using hk a ha⟩

/-- Numbers in a row. -/
def marks (k : Int) (n : Nat) : List Int := (List.range n).map fun (i : Nat) => k + (i : Int)

theorem marks_length (k : Int) (n : Nat) : (marks k n).length = n := by simp [marks]
theorem marks_get (k : Int) (n i : Nat) (h : i < (marks k n).length) : (marks k n)[i] = k + i := by simp [marks]
theorem marks_I64 {k : Int} {n : Nat} (h0 : 0 ≤ k) (h1 : k + n ≤ 9223372036854775807) : ∀ x ∈ marks k n, I64 x := fun x hx => by
  simp [marks] at hx
  obtain ⟨i, hi, rfl⟩ := hx
  unfold I64; omega

theorem marks_step {k : Int} {l : List Int} {i : Nat} (hi : i < l.length) : (marks k i ++ l.drop i).set i (k + i) = marks k (i + 1) ++ l.drop (i + 1) := by
  have h1 : (marks k i).length = i := marks_length _ _
  rw [List.set_append_right _ _ (by omega), h1, Nat.sub_self, List.drop_eq_getElem_cons hi, List.set_cons_zero]
  simp [marks, List.range_succ]

theorem Chg.extR {w0 w w' : World} {lo hi : Nat} (h : Chg w w' (fun b => lo ≤ b ∧ b < hi)) (hE : Ext w0 w) (hl : w0.heap.size ≤ lo) : Ext w0 w' := h.ext0 hE fun k hk => by have := hk.1; omega
theorem Chg.extB {w0 w w' : World} {lo : Nat} (h : Chg w w' (fun b => lo ≤ b)) (hE : Ext w0 w) (hl : w0.heap.size ≤ lo) : Ext w0 w' := h.ext0 hE fun k hk => by have : lo ≤ k := hk; omega

/-! ### Lists that are filled from the front -/

/-! ### Boxes and lists of the call's own, apart by their types -/

def oB (s : Sl) (b : Nat) : Prop := s.v.ownBlock = some b

/-! ### Answers that hold only where something holds -/

structure AnsG {α : Type} (g : Prop) (x d y : α) (ok : Bool) : Prop where
  ok : ok = true ↔ g
  val : g → y = x
  non : ¬ g → y = d

theorem AnsG.yes {α : Type} {g : Prop} {x d : α} (h : g) : AnsG g x d x true := ⟨by simp [h], fun _ => rfl, fun hn => absurd h hn⟩
theorem AnsG.no {α : Type} {g : Prop} {x d : α} (h : ¬ g) : AnsG g x d d false := ⟨by simp [h], fun hg => absurd hg h, fun _ => rfl⟩
theorem AnsG.eq {α : Type} {g : Prop} {x d y y' : α} {ok ok' : Bool} (h : AnsG g x d y ok) (h' : AnsG g x d y' ok') : y = y' ∧ ok = ok' := by
  constructor
  · by_cases hg : g
    · rw [h.val hg, h'.val hg]
    · rw [h.non hg, h'.non hg]
  · rw [Bool.eq_iff_iff, h.ok, h'.ok]

end Go.GX
end

section
/- The laws' marks: what they write into copies and answers, and what they look for again. -/
namespace Go.Proofs.YtaeledhbkdakcaaDoor
open Go.GX Go.RowKit
set_option maxRecDepth 100000

theorem markIntS_ok {w : World} {base : Nat} {s : Sl} {l : List Int} (h : OwnL w base T.t_int s l) (k : Int) (h0 : 0 ≤ k) (h1 : k ≤ 1152921504606846976) (hl : l.length ≤ 1048576) :
    Calls Tryd.prog F.l_markIntS #[s.v, .int .i64 k] w (Ret [.at (.int .i64)] fun (r : Int) w' => r = k + l.length ∧ OwnL w' base T.t_int s (marks k l.length) ∧ Step w w' s.v.ownBlock) := by
  refine C_l_markIntS ?_
  unfold V_l_markIntS
  rw [h.1]
  refine ⟨IN2 l.length fun i r w' => r = k + i ∧ OwnL w' base T.t_int s (marks k i ++ l.drop i) ∧ Step w w' s.v.ownBlock, MN2 l.length, IN2_zero ⟨by simp, by simpa [marks] using h, Step.refl _ _⟩, ?_⟩
  rintro _ _ w1 ⟨i, rfl, hi, rfl, hO, hs⟩
  intros
  refine cond_dec (fun hlt => ?_) (fun hge => ?_)
  · have hi' : i < l.length := by omega
    have hml : (marks k i ++ l.drop i).length = l.length := by rw [List.length_append, marks_length, List.length_drop]; omega
    refine IX_own hO (by rw [hml]; exact hi') rfl fun p hp => ?_
    refine ST_own hO (by rw [hml]; exact hi') hp (k + i) rfl fun w2 hO2 hs2 => ?_
    rw [marks_step hi'] at hO2
    rw [wrap_of (n := k + i + 1) (by omega) (by omega)]
    exact IN2_next (by omega) hi' ⟨by omega, hO2, hs.trans hs2⟩
  · have : i = l.length := by omega
    subst this
    exact ⟨rfl, by simpa using hO, hs⟩

theorem heldIntS_ok {w : World} {s : Sl} {n : Nat} (k : Int) (h : R w s (marks k n)) (h0 : 0 ≤ k) (h1 : k ≤ 1152921504606846976) (hl : n ≤ 1048576) :
    Calls Tryd.prog F.l_heldIntS #[s.v, .int .i64 k] w (Ret [.at (.int .i64)] fun (r : Int) w' => r = k + n ∧ w = w') := by
  refine C_l_heldIntS ?_
  unfold V_l_heldIntS
  rw [h.len, marks_length]
  refine ⟨IN2 n fun i r w' => r = k + i ∧ w = w', MN2 n, IN2_zero ⟨by simp, rfl⟩, ?_⟩
  rintro _ _ w1 ⟨i, rfl, hi, rfl, rfl⟩
  intros
  refine cond_dec (fun hlt => ?_) (fun hge => ?_)
  · have hi' : i < (marks k n).length := by rw [marks_length]; omega
    refine h.ixI hi' fun p _ hc => LD_int hc ?_
    rw [marks_get]
    refine cond_ne (fun hne => absurd rfl hne) (fun _ => ?_)
    rw [wrap_of (n := k + i + 1) (by omega) (by omega)]
    exact IN2_next (by omega) (by omega) ⟨by omega, rfl⟩
  · have : i = n := by omega
    subst this
    exact ⟨rfl, rfl⟩

theorem markIntS_wr {w : World} {s : Sl} (h : Wr w s 1) (k : Int) (h0 : 0 ≤ k) (h1 : k ≤ 1152921504606846976) (hl : s.len ≤ 1048576) :
    Calls Tryd.prog F.l_markIntS #[s.v, .int .i64 k] w (Ret [.at (.int .i64)] fun (r : Int) w' => r = k + s.len ∧ Shp w w' ∧ Chg w w' (blkOf s)) := by
  refine C_l_markIntS ?_
  unfold V_l_markIntS
  refine ⟨IN2 s.len fun i r w' => r = k + i ∧ Shp w w' ∧ Chg w w' (blkOf s), MN2 s.len, IN2_zero ⟨by simp, Shp.refl _, Chg.refl _ _⟩, ?_⟩
  rintro _ _ w1 ⟨i, rfl, hi, rfl, hS, hC⟩
  intros
  refine cond_dec (fun hlt => ?_) (fun hge => ?_)
  · have hi' : i < s.len := by omega
    refine IX_wr (h.shp hS) (by decide) hi' fun a ha => ?_
    refine ST_wr1 (i := i) (h.shp hS) ha (by rw [add_add]; simp) (by omega) rfl fun w2 hS2 hC2 _ => ?_
    rw [wrap_of (n := k + i + 1) (by omega) (by omega)]
    exact IN2_next (by omega) hi' ⟨by omega, hS.trans hS2, hC.trans hC2⟩
  · have : i = s.len := by omega
    subst this
    exact ⟨rfl, hS, hC⟩

theorem markEndS_wr {w : World} {s : Sl} (h : Wr w s 2) (k : Int) (h0 : 0 ≤ k) (h1 : k ≤ 1152921504606846976) (hl : s.len ≤ 1048576) :
    Calls Tryd.prog F.l_markEndS #[s.v, .int .i64 k] w (Ret [.at (.int .i64)] fun (r : Int) w' => r = k + 2 * s.len ∧ Shp w w' ∧ Chg w w' (blkOf s)) := by
  refine C_l_markEndS ?_
  unfold V_l_markEndS
  refine ⟨IN2 s.len fun i r w' => r = k + 2 * i ∧ Shp w w' ∧ Chg w w' (blkOf s), MN2 s.len, IN2_zero ⟨by simp, Shp.refl _, Chg.refl _ _⟩, ?_⟩
  rintro _ _ w1 ⟨i, rfl, hi, rfl, hS, hC⟩
  intros
  refine cond_dec (fun hlt => ?_) (fun hge => ?_)
  · have hi' : i < s.len := by omega
    refine IX_wr (h.shp hS) (by decide) hi' fun a ha => ?_
    refine ST_wr1 (i := i * 2) (h.shp hS) ha (by rw [add_add, add_add]; simp) (by omega) rfl fun w2 hS2 hC2 _ => ?_
    have hS' := hS.trans hS2
    refine IX_wr (h.shp hS') (by decide) hi' fun a' ha' => ?_
    rw [wrap_of (n := k + 2 * i + 1) (by omega) (by omega)]
    refine ST_wr1 (i := i * 2 + 1) (h.shp hS') ha' (by rw [add_add, add_add]) (by omega) rfl fun w3 hS3 hC3 _ => ?_
    rw [wrap_of (n := k + 2 * i + 1 + 1) (by omega) (by omega)]
    exact IN2_next (by omega) hi' ⟨by omega, hS'.trans hS3, (hC.trans hC2).trans hC3⟩
  · have : i = s.len := by omega
    subst this
    exact ⟨rfl, hS, hC⟩

/-- A slice of numbers that may be marked: its blocks lie between two bounds. -/
structure MInt (w : World) (s : Sl) (lo hi : Nat) : Prop where
  wr : Wr w s 1
  len : s.len ≤ 1048576
  blk : ∀ b, blkOf s b → lo ≤ b ∧ b < hi

theorem MInt.shp {w w' : World} {s : Sl} {lo hi : Nat} (h : MInt w s lo hi) (hs : Shp w w') : MInt w' s lo hi := ⟨h.wr.shp hs, h.len, h.blk⟩
theorem MInt.ext {w w' : World} {s : Sl} {lo hi : Nat} (h : MInt w s lo hi) (hE : Ext w w') : MInt w' s lo hi := h.shp (Shp.ext hE)

theorem blkOf_own {α : Type} [Flat α] {w : World} {base : Nat} {e : TypeId} {s : Sl} {l : List α} (h : OwnL w base e s l) {b : Nat} (hb : blkOf s b) : s.v.ownBlock = some b := by
  obtain ⟨a, ha, rfl⟩ := hb
  rcases h.2.2 with ⟨hv, _⟩ | ⟨g, cap, cur, hv, _⟩
  · simp [Sl.v] at hv; rw [ha] at hv; cases hv.1
  · simp [Sl.v] at hv
    rw [ha] at hv
    simp [Sl.v, ha, Value.ownBlock]

theorem mint_of {w : World} {base : Nat} {s : Sl} {l : List Int} (h : OwnL w base T.t_int s l) (hl : l.length ≤ 1048576) : MInt w s base w.heap.size :=
  ⟨h.wr, by rw [h.1]; exact hl, fun b hb => h.blk b (blkOf_own h hb)⟩

/-- A slice of slices of numbers that may be marked. -/
structure MIntSS (w : World) (s : Sl) (lo hi : Nat) : Prop where
  ex : ∃ ss : List Sl, OwnL w lo T.t_sl_int s ss ∧ ss.length ≤ 1048576 ∧ ∀ r ∈ ss, MInt w r lo hi ∧ ∀ b, blkOf r b → s.v.ownBlock ≠ some b

/-- A network that may be marked. -/
structure MNet (w : World) (x y z : Sl) (lo hi : Nat) : Prop where
  ends : ∃ ss : List Sl, OwnL w lo T.t_sl_i_End x ss ∧ ss.length ≤ 1048576 ∧ ∀ r ∈ ss, Wr w r 2 ∧ r.len ≤ 1048576 ∧ ∀ b, blkOf r b → (lo ≤ b ∧ b < hi) ∧ x.v.ownBlock ≠ some b
  ids : MInt w y lo hi
  inputs : MInt w z lo hi

theorem MNet.ext {w w' : World} {x y z : Sl} {lo hi : Nat} (h : MNet w x y z lo hi) (hE : Ext w w') : MNet w' x y z lo hi := by
  obtain ⟨⟨ss, h1, h2, h3⟩, h4, h5⟩ := h
  exact ⟨⟨ss, h1.ext hE, h2, fun r hr => ⟨(h3 r hr).1.shp (Shp.ext hE), (h3 r hr).2⟩⟩, h4.ext hE, h5.ext hE⟩

theorem OwnNet.mnet {w : World} {base : Nat} {x y z : Sl} {n : Net} (h : OwnNet w base x y z n) (hs : Small n) : MNet w x y z base w.heap.size := by
  obtain ⟨⟨ss, h1, h2, h3⟩, h4, h5⟩ := h
  refine ⟨⟨ss, h1, by rw [h2]; exact hs.1, fun r hr => ?_⟩, mint_of h4 hs.2.2.1, mint_of h5 hs.2.2.2⟩
  obtain ⟨i, hi, rfl⟩ := List.mem_iff_getElem.1 hr
  have hi2 : i < n.ends.length := by omega
  have hO := h3 i ss[i] n.ends[i] (by simp [hi]) (by simp [hi2])
  refine ⟨hO.wr, by rw [hO.1]; exact hs.2.1 _ (List.getElem_mem hi2), fun b hb => ?_⟩
  have hb' := blkOf_own hO hb
  refine ⟨hO.blk b hb', fun he => ?_⟩
  obtain ⟨c1, e1⟩ := hO.type hb'
  obtain ⟨c2, e2⟩ := h1.type he
  rw [e1] at e2
  exact absurd (Obj.cells.inj (Option.some.inj e2)).2.1 (by decide)

theorem markEndSS_ok {w : World} {x : Sl} {lo hi : Nat} {ss : List Sl} (hO : OwnL w lo T.t_sl_i_End x ss) (hl : ss.length ≤ 1048576)
    (hr : ∀ r ∈ ss, Wr w r 2 ∧ r.len ≤ 1048576 ∧ ∀ b, blkOf r b → (lo ≤ b ∧ b < hi) ∧ x.v.ownBlock ≠ some b) :
    Calls Tryd.prog F.l_markEndSS #[x.v, .int .i64 1] w (Ret [.at (.int .i64)] fun (r : Int) w' => 0 ≤ r ∧ r ≤ 4503599627370496 ∧ Shp w w' ∧ Chg w w' (fun b => lo ≤ b ∧ b < hi)) := by
  refine C_l_markEndSS ?_
  unfold V_l_markEndSS
  rw [hO.1]
  refine ⟨IN2 ss.length fun i r w' => 0 ≤ r ∧ r ≤ 1 + 2097152 * i ∧ Shp w w' ∧ Chg w w' (fun b => (lo ≤ b ∧ b < hi) ∧ x.v.ownBlock ≠ some b), MN2 ss.length, IN2_zero ⟨by omega, by omega, Shp.refl _, Chg.refl _ _⟩, ?_⟩
  rintro k _ w1 ⟨i, rfl, hi', h0, h1, hS, hC⟩
  intros
  refine cond_dec (fun hlt => ?_) (fun hge => ?_)
  · have hi2 : i < ss.length := by omega
    have hO1 : OwnL w1 lo T.t_sl_i_End x ss := hO.chg hC fun b hb hD => hD.2 hb
    have hR := hO1.rep fun _ _ => trivial
    refine hR.ix (n := 1) rfl (by omega) (by omega) fun p cs hrep hc => ?_
    simp only [Int.toNat_natCast] at hrep
    have hcs : cs = [ss[i].v] := hrep
    subst hcs
    refine LD_sl (hc 0 _ rfl) ?_
    obtain ⟨hw, hlen, hb⟩ := hr _ (List.getElem_mem hi2)
    refine call (markEndS_wr (hw.shp hS) k h0 (by omega) hlen) ?_
    rintro r w2 ⟨rfl, hS2, hC2⟩
    exact IN2_next (by omega) hi2 ⟨by omega, by omega, hS.trans hS2, hC.trans (hC2.mono fun b hb' => hb b hb')⟩
  · have : i = ss.length := by omega
    subst this
    exact ⟨h0, by omega, hS, hC.mono fun b hb => hb.1⟩

theorem markNetwork_ok {w : World} {x y z : Sl} {lo hi : Nat} (h : MNet w x y z lo hi) (hw : hi ≤ w.heap.size) :
    Calls Tryd.prog F.l_markNetwork #[.agg #[x.v, y.v, z.v], .int .i64 1] w (Ret [.at (.int .i64)] fun (r : Int) w' => 0 ≤ r ∧ r ≤ 9007199254740992 ∧ Shp w w' ∧ Chg w w' (fun b => lo ≤ b ∧ b < hi)) := by
  refine C_l_markNetwork ?_
  unfold V_l_markNetwork
  refine NEW_intro fun p w1 hp hs hE hb => ?_
  obtain ⟨⟨ss, h1, h2, h3⟩, h4, h5⟩ := h.ext hE
  refine LD_bs0 hb ?_
  refine call (markEndSS_ok h1 h2 h3) ?_
  rintro r1 w2 ⟨ha, hb2, hS, hC⟩
  have hbx := hb.chg hC (by rw [hp]; intro hh; omega)
  refine LD_bs1 hbx ?_
  refine call (markIntS_wr (h4.wr.shp hS) r1 ha (by omega) h4.len) ?_
  rintro r2 w3 ⟨rfl, hS2, hC2⟩
  have hC2' := hC2.mono h4.blk
  have hbx2 := hbx.chg hC2' (by rw [hp]; intro hh; omega)
  have := h4.len
  have := h5.len
  refine LD_bs2 hbx2 ?_
  refine call (markIntS_wr (h5.wr.shp (hS.trans hS2)) _ (by omega) (by omega) h5.len) ?_
  rintro r3 w4 ⟨rfl, hS3, hC3⟩
  exact ⟨by omega, by omega, (((Shp.ext hE).trans hS).trans hS2).trans hS3, (((Chg.of_ext hE).trans hC).trans hC2').trans (hC3.mono h5.blk)⟩

/-! ### Answers that are lists -/

/-- An answer of the call's own: its blocks lie from base on. -/
structure OutL (base : Nat) (w : World) (s : Sl) (l : List Int) : Prop where
  own : OwnL w base T.t_int s l
  i64 : ∀ x ∈ l, I64 x
  small : l.length ≤ 1048576

theorem OutL.rep {base : Nat} {w : World} {s : Sl} {l : List Int} (h : OutL base w s l) : R w s l := (h.own.rep h.i64).any
theorem OutL.ext {base : Nat} {w w' : World} {s : Sl} {l : List Int} (h : OutL base w s l) (hE : Ext w w') : OutL base w' s l := ⟨h.own.ext hE, h.i64, h.small⟩
theorem OutL.chgR {base lo hi : Nat} {w w' : World} {s : Sl} {l : List Int} (h : OutL base w s l) (hC : Chg w w' (fun b => lo ≤ b ∧ b < hi)) (hh : hi ≤ base) : OutL base w' s l :=
  ⟨h.own.chg hC fun b hb hD => by have := (h.own.blk b hb).1; have := hD.2; omega, h.i64, h.small⟩
theorem OutL.nil (base : Nat) (w : World) : OutL base w ⟨none, 0, 0⟩ [] := ⟨OwnL.nil _ _ _, by simp, by simp⟩
theorem OutL.low {base b : Nat} {w : World} {s : Sl} {l : List Int} (h : OutL base w s l) (hb : b ≤ base) : OutL b w s l := ⟨h.own.low hb, h.i64, h.small⟩

theorem markIntS_out {base : Nat} {w : World} {s : Sl} {l : List Int} (h : OutL base w s l) (k : Int) (h0 : 0 ≤ k) (h1 : k ≤ 1152921504606846976) :
    Calls Tryd.prog F.l_markIntS #[s.v, .int .i64 k] w (Ret [.at (.int .i64)] fun (r : Int) w' => r = k + l.length ∧ R w' s (marks k l.length) ∧ Chg w w' (fun b => base ≤ b)) := by
  refine call (markIntS_ok h.own k h0 h1 h.small) ?_
  rintro r w' ⟨rfl, hO, hs⟩
  have := h.small
  exact ⟨rfl, (hO.rep (marks_I64 h0 (by omega))).any, .of_step hs fun k hk => (h.own.blk k hk).1⟩

end Go.Proofs.YtaeledhbkdakcaaDoor
end

section
/- Copying between slices, digits of numbers. No program is named here. -/
namespace Go.GX
open Go.RowKit

/-! ### Digits -/

theorem wrap_u64 {n : Int} (h0 : 0 ≤ n) (h1 : n < 18446744073709551616) : IntKind.u64.wrap n = n := by
  have e1 : (2 : Int) ^ 64 = 18446744073709551616 := rfl
  have hs : IntKind.u64.signed = false := rfl
  simp only [IntKind.wrap, IntKind.bits, hs, Bool.false_and, e1]
  rw [Int.emod_eq_of_lt h0 h1]; simp

theorem ofInt_toNat (n : Nat) (h : n < 18446744073709551616) : (BitVec.ofInt 64 (n : Int)).toNat = n := by
  rw [BitVec.toNat_ofInt]
  have : ((2 ^ 64 : Nat) : Int) = 18446744073709551616 := rfl
  rw [this]
  omega

theorem bitAnd_u64 (a b : Nat) (ha : a < 18446744073709551616) (hb : b < 18446744073709551616) : bitAnd .u64 a b = ((a &&& b : Nat) : Int) := by
  unfold bitAnd
  have h1 : (BitVec.ofInt IntKind.u64.bits (a : Int) &&& BitVec.ofInt IntKind.u64.bits (b : Int)).toNat = a &&& b := by
    show (BitVec.ofInt 64 (a : Int) &&& BitVec.ofInt 64 (b : Int)).toNat = a &&& b
    rw [BitVec.toNat_and, ofInt_toNat a ha, ofInt_toNat b hb]
  rw [h1]
  have := Nat.and_le_left (n := a) (m := b)
  exact wrap_u64 (by omega) (by omega)

theorem bitAnd_u64_low (a : Nat) (ha : a < 4294967296) : bitAnd .u64 a 4294967295 = a := by
  have := bitAnd_u64 a 4294967295 (by omega) (by omega)
  rw [show ((4294967295 : Nat) : Int) = 4294967295 from rfl] at this
  rw [this]
  congr 1
  have := Nat.and_two_pow_sub_one_eq_mod a 32
  rw [show (2 : Nat) ^ 32 - 1 = 4294967295 from rfl, show (2 : Nat) ^ 32 = 4294967296 from rfl] at this
  rw [this]
  exact Nat.mod_eq_of_lt ha

theorem shr_nat (k : IntKind) (a j : Nat) (hj : j ≤ k.bits) : shrI k a j = ((a / 2 ^ j : Nat) : Int) := by
  unfold shrI
  rw [Int.toNat_natCast, Nat.min_eq_left hj, Int.fdiv_eq_ediv_of_nonneg _ (Int.le_of_lt (Int.pow_pos (by decide)))]
  simp

/-! ### Cutting -/

/-- s[lo:] of a slice of the call's own. -/
theorem SLC_from {s : Sl} {lo : Nat} {sz : Nat} (hle : s.len ≤ s.cap) (hlo : lo ≤ s.len) {K : Sl → Prop}
    (hk : ∀ d : Sl, d.len = s.len - lo → (lo < s.len → d.a = s.a.map (·.add (lo * sz))) → K d) : SLC s (some (lo : Int)) none sz K := by
  refine ⟨by simp, by simp; omega, by simp; omega, hk _ ?_ ?_⟩
  · simp
  · intro hlt
    simp
    intro h; omega

/-- s[:hi]. -/
theorem SLC_to {s : Sl} {hi : Nat} {sz : Nat} (hhi : hi ≤ s.cap) {K : Sl → Prop}
    (hk : ∀ d : Sl, d.len = hi → d.a = s.a → d.cap = s.cap → K d) : SLC s none (some (hi : Int)) sz K := by
  refine ⟨by simp, by simp, by simp; omega, hk _ (by simp) ?_ (by simp)⟩
  simp
  intro _
  cases s.a <;> simp [add_zero']

/-! ### copy -/

theorem flat1 {α : Type} [Flat α] (h1 : Rep.sz α = 1) (l : List α) : ∃ f : α → Value, l.flatMap Flat.cells = l.map f ∧ ∀ x ∈ l, Flat.cells x = [f x] := by
  refine ⟨fun x => (Flat.cells x).headD undef, ?_, ?_⟩
  · induction l with
    | nil => rfl
    | cons x r ih =>
      rw [List.flatMap_cons, List.map_cons, ih]
      have hx : (Flat.cells x).length = 1 := by rw [Flat.size]; exact h1
      match hc : Flat.cells x, hx with
      | [v], _ => rfl
  · intro x _
    have hx : (Flat.cells x).length = 1 := by rw [Flat.size]; exact h1
    match hc : Flat.cells x, hx with
    | [v], _ => simp [hc]

/-- copy(d, y): d a part, from place off on, of a slice of the call's own. -/
theorem RUN_copy {α : Type} [Flat α] (hα : Rep.sz α = 1) {P : Program} {t ti e : TypeId} {bytes : Nat} {z : Value} (hT : SlT P t e 1 bytes z) {w : World} {base : Nat} {s d y : Sl} {l m : List α} (h : OwnL w base e s l)
    {off : Nat} (hd : 0 < d.len → d.a = s.a.map (·.add off)) (hfit : off + d.len ≤ l.length) {D : Nat → Prop} (hy : SlR D w y m) {K : Int → World → Prop}
    (hk : ∀ w', OwnL w' base e s (l.take off ++ m.take d.len ++ l.drop (off + min m.length d.len)) → Step w w' s.v.ownBlock → w'.heap.size = w.heap.size → K ((min m.length d.len : Nat) : Int) w') :
    RUN P (.at (.int .i64)) (bsem .copy #[t, t] ti #[d.v, y.v]) w K := by
  obtain ⟨i, hi, hz0, hsz, hby⟩ := hT.parts
  have hs1 : (P.info? e).map (·.size) = some 1 := by rw [hi]; simp [hsz]
  have fin : ∀ n w', (Builtin.copy_ #[t, t] ti #[d.v, y.v]).run P w = .ok (goInt n) w' → K (n : Int) w' → RUN P (.at (.int .i64)) (bsem .copy #[t, t] ti #[d.v, y.v]) w K := by
    intro n w' hr hK
    unfold RUN
    show (match (Builtin.copy_ #[t, t] ti #[d.v, y.v]).run P w with | .ok v w' => _ | .halt _ _ => False)
    rw [hr]
    exact hK
  have hyl := hy.len
  by_cases hmin : min m.length d.len = 0
  · refine fin 0 w ?_ ?_
    · exact run_copy_none (P := P) w t t ti e d.a y.a d.len d.cap y.len y.cap hT.under hs1 (by rw [hyl]; exact hmin)
    · have := hk w ?_ (Step.refl _ _) rfl
      · rwa [hmin] at this
      · rw [hmin]
        have : m.take d.len = [] := by
          apply List.eq_nil_of_length_eq_zero; rw [List.length_take]; omega
        rw [this]
        simpa using h
  · have hm0 : 0 < m.length := by omega
    have hd0 : 0 < d.len := by omega
    rcases h.2.2 with ⟨hv, h0⟩ | ⟨g, cap, cur, hv, hb, hg, hle, hmx, hcs, htake⟩
    · have := h.1; omega
    · have hv' := hv
      simp [Sl.v] at hv
      obtain ⟨hsa, rfl⟩ := hv
      have hda : d.a = some ⟨g, off, none⟩ := by
        rw [hd hd0, hsa]
        simp only [Option.map_some, Addr.add]
        split <;> simp_all
      obtain ⟨ya, _, hya, _⟩ := hy.2.2 0 m[0] (by simp [hm0])
      obtain ⟨f, hf, hf1⟩ := flat1 hα m
      obtain ⟨fl, hfl, hl1⟩ := flat1 hα l
      have hsrc := hy.flat hya
      rw [hf] at hsrc
      have hll := h.1
      rw [hα] at hcs htake
      rw [hfl] at htake
      have hcsz : cur.size = s.cap := by omega
      have hone : ∀ v ∈ m.map f, v.oneCell' = true := by
        intro v hv
        obtain ⟨x, hx, rfl⟩ := List.mem_map.1 hv
        exact Flat.one x _ (by rw [hf1 x hx]; simp)
      have hr := run_copy_row (P := P) w t t ti e g off d.len d.cap ya y.len y.cap cur e ((m.map f).take d.len) hT.under hs1 hg (by rw [List.length_take, List.length_map, hyl]; exact Nat.min_comm _ _) (fun j v hj => hsrc j v (by
          rw [List.getElem?_take] at hj
          split at hj
          · exact hj
          · cases hj)) (by rw [List.length_take, List.length_map]; omega) (fun v hv => hone v (List.mem_of_mem_take hv))
      have hdv : d.v = .slice (some ⟨g, off, none⟩) d.len d.cap := by simp [Sl.v, hda]
      have hyv : y.v = .slice (some ya) y.len y.cap := by simp [Sl.v, hya]
      rw [← hdv, ← hyv] at hr
      have hlen : ((m.map f).take d.len).length = min m.length d.len := by rw [List.length_take, List.length_map]; exact Nat.min_comm _ _
      refine fin _ _ hr ?_
      rw [hlen]
      refine hk _ ?_ ⟨rfl, rfl, rfl, by simp, fun k _ hne => setRow_other _ _ _ _ (by intro he; subst he; exact hne (by rw [hv']; rfl))⟩ (by simp)
      refine ⟨?_, ?_, ?_⟩
      · simp only [List.length_append, List.length_take, List.length_drop]; omega
      · have hall : ∀ q : List α, (q.flatMap Flat.cells).length = q.length := by
          intro q
          obtain ⟨fq, hfq, _⟩ := flat1 hα q
          rw [hfq]; simp
        rw [hall, hα]
        simp only [List.length_append, List.length_take, List.length_drop]; omega
      · refine .inr ⟨g, s.cap, _, hv', hb, setRow_heap _ _ _ _ _ _ hg, hle, hmx, ?_, ?_⟩
        · rw [hα]
          simp only [List.size_toArray, List.length_append, List.length_take, List.length_drop, List.length_map, Array.length_toList]
          omega
        · rw [hα, Nat.mul_one]
          have e1 : (l.take off ++ m.take d.len ++ l.drop (off + min m.length d.len)).flatMap Flat.cells = (l.map fl).take off ++ (m.map f).take d.len ++ (l.map fl).drop (off + min m.length d.len) := by
            rw [List.flatMap_append, List.flatMap_append]
            have hsub : ∀ (q : List α) (g : α → Value), (∀ x ∈ q, Flat.cells x = [g x]) → q.flatMap Flat.cells = q.map g := by
              intro q g hq
              induction q with
              | nil => rfl
              | cons x r ih => rw [List.flatMap_cons, hq x (by simp), ih (fun y hy => hq y (by simp [hy]))]; rfl
            rw [hsub (l.take off) fl (fun x hx => hl1 x (List.mem_of_mem_take hx)), hsub (m.take d.len) f (fun x hx => hf1 x (List.mem_of_mem_take hx)), hsub (l.drop _) fl (fun x hx => hl1 x (List.mem_of_mem_drop hx)), List.map_take, List.map_take, List.map_drop]
          rw [e1]
          have hcl : (l.map fl) = cur.toList.take s.len := by rw [← htake, Nat.mul_one]
          rw [hcl]
          have hcl2 : cur.toList.length = s.cap := by simp [hcsz]
          apply List.ext_getElem?
          intro j
          simp only [List.getElem?_take, List.getElem?_append, List.getElem?_drop, List.length_append, List.length_take, List.length_map, hcl2]
          by_cases hj : j < s.len
          · by_cases h1 : j < off
            · have a1 : j < min off s.cap := by omega
              have a2 : j < min off s.cap + min d.len m.length := by omega
              have a3 : j < min off (min s.len s.cap) := by omega
              have a4 : j < min off (min s.len s.cap) + min d.len m.length := by omega
              simp only [hj, h1, a1, a2, a3, a4, if_true]
            · by_cases h2 : j < off + min m.length d.len
              · have a1 : ¬ j < min off s.cap := by omega
                have a2 : j < min off s.cap + min d.len m.length := by omega
                have a3 : ¬ j < min off (min s.len s.cap) := by omega
                have a4 : j < min off (min s.len s.cap) + min d.len m.length := by omega
                simp only [hj, a1, a2, a3, a4, if_true, if_false]
                rw [show j - min off s.cap = j - min off (min s.len s.cap) by omega]
              · have a2 : ¬ j < min off s.cap + min d.len m.length := by omega
                have a4 : ¬ j < min off (min s.len s.cap) + min d.len m.length := by omega
                simp only [hj, a2, a4, if_true, if_false]
                rw [show off + min m.length d.len + (j - (min off s.cap + min d.len m.length)) = j by omega, show off + min m.length d.len + (j - (min off (min s.len s.cap) + min d.len m.length)) = j by omega, if_pos hj]
          · have a4 : ¬ j < min off (min s.len s.cap) + min d.len m.length := by omega
            simp only [hj, a4, if_false]
            rw [if_neg (by omega)]

/-! ### clear, and the first part of a slice of the call's own -/

theorem OwnL.front {α : Type} [Flat α] {w : World} {base : Nat} {e : TypeId} {s : Sl} {l : List α} (h : OwnL w base e s l) {k : Nat} (hk : k ≤ l.length) : OwnL w base e ⟨s.a, k, s.cap⟩ (l.take k) := by
  have hlen : ∀ q : List α, (q.flatMap Flat.cells).length = q.length * Rep.sz α := by
    intro q
    induction q with
    | nil => simp
    | cons x r ih => rw [List.flatMap_cons, List.length_append, ih, Flat.size x, List.length_cons, Nat.succ_mul, Nat.add_comm]
  refine ⟨by simp; omega, ?_, ?_⟩
  · rw [hlen, List.length_take, Nat.min_eq_left hk]
  · rcases h.2.2 with ⟨hv, h0⟩ | ⟨g, cap, cur, hv, hb, hg, hle, hmx, hsz, htake⟩
    · simp [Sl.v] at hv
      have := h.1
      refine .inl ⟨?_, by simp only; omega⟩
      simp [Sl.v, hv.1]
      omega
    · have hv' := hv
      simp [Sl.v] at hv
      have hl := h.1
      refine .inr ⟨g, cap, cur, ?_, hb, hg, by simp only; omega, hmx, hsz, ?_⟩
      · simp [Sl.v, hv.1, hv.2]
      · have hk2 : ((l.take k).flatMap Flat.cells).length = k * Rep.sz α := by rw [hlen, List.length_take, Nat.min_eq_left hk]
        have e2 : (l.take k).flatMap Flat.cells = (l.flatMap Flat.cells).take (k * Rep.sz α) := by
          have e3 : l.flatMap Flat.cells = (l.take k).flatMap Flat.cells ++ (l.drop k).flatMap Flat.cells := by rw [← List.flatMap_append, List.take_append_drop]
          rw [e3, ← hk2, List.take_left]
        rw [e2, ← htake, List.take_take]
        have : k * Rep.sz α ≤ s.len * Rep.sz α := Nat.mul_le_mul_right _ (by omega)
        rw [Nat.min_eq_left this]

end Go.GX
end

section
/- Contracts of functions of the library: Mul, Repeat. -/
namespace Go.Proofs.YtaeledhbkdakcaaDoor
open Go.GX Go.RowKit
set_option maxRecDepth 100000

theorem mul_ok {x y : Nat} (h : x * y < 4294967296) (hx : x < 4294967296) (hy : y < 4294967296) (w : World) :
    Calls Tryd.prog F.math_bits_Mul #[.int .u64 x, .int .u64 y] w (Ret [.at (.int .u64), .at (.int .u64)] fun (a b : Int) w' => a = 0 ∧ b = ((x * y : Nat) : Int) ∧ w = w') := by
  refine C_math_bits_Mul ?_
  unfold V_math_bits_Mul
  refine call (Q := fun (a b : Int) w' => a = 0 ∧ b = ((x * y : Nat) : Int) ∧ w = w') (C_math_bits_Mul64 ?_) (fun a b w' h => h)
  unfold V_math_bits_Mul64
  refine ⟨by decide, by decide, by decide, by decide, by decide, ?_⟩
  have s0 : ∀ a : Nat, a < 4294967296 → shrI .u64 a 32 = 0 := fun a ha => by
    have := shr_nat .u64 a 32 (by decide)
    rw [show ((32 : Nat) : Int) = 32 from rfl] at this
    rw [this, Nat.div_eq_of_lt (by simpa using ha)]; rfl
  have wr : ∀ a : Nat, a < 4294967296 → IntKind.u64.wrap (a : Int) = a := fun a ha => wrap_u64 (by omega) (by omega)
  have z0 : shrI .u64 0 32 = 0 := s0 0 (by omega)
  have w0 : IntKind.u64.wrap 0 = 0 := wr 0 (by omega)
  have b0 : bitAnd .u64 0 4294967295 = 0 := bitAnd_u64_low 0 (by omega)
  rw [s0 x hx, s0 y hy, bitAnd_u64_low x hx, bitAnd_u64_low y hy, ← Int.natCast_mul, wr _ h, s0 _ h]
  simp only [Int.zero_mul, Int.mul_zero, w0, z0, b0, Int.add_zero]
  exact ⟨trivial, trivial, trivial⟩

theorem repl_step {n k : Nat} {v : Int} (hk : k ≤ n) (h0 : 0 < k) : ((List.replicate k v ++ List.replicate (n - k) 0).take k ++ (List.replicate k v).take (n - k) ++ (List.replicate k v ++ List.replicate (n - k) 0).drop (k + min (List.replicate k v).length (n - k))) = List.replicate (k + min k (n - k)) v ++ List.replicate (n - (k + min k (n - k))) (0 : Int) := by
  simp only [List.length_replicate]
  rw [List.take_append_of_le_length (by simp), List.take_replicate, Nat.min_self, List.take_replicate, List.drop_append, List.drop_eq_nil_of_le (by simp), List.nil_append, List.drop_replicate, List.length_replicate, List.replicate_append_replicate]
  congr 2
  · omega
  · omega

theorem repeat_ok {w : World} {s : Sl} {v : Int} (h : R w s [v]) (hv : I64 v) {n : Nat} (hn : n ≤ 1048576) :
    Calls Tryd.prog F.slices_Repeat_sl_int_int #[s.v, .int .i64 n] w (Ret [.at .sl] fun (r : Sl) w' => Ext w w' ∧ OwnL w' w.heap.size T.t_int r (List.replicate n v)) := by
  refine C_slices_Repeat_sl_int_int ?_
  unfold V_slices_Repeat_sl_int_int
  refine cond_df (by omega) ?_
  have hsl : s.len = 1 := h.len
  rw [hsl, wrap_u64 (by omega) (by omega), wrap_u64 (by omega) (by omega)]
  refine call (mul_ok (x := 1) (y := n) (by omega) (by omega) (by omega) w) ?_
  rintro a b _ ⟨rfl, rfl, rfl⟩
  refine cond_df (by omega) ?_
  refine cond_df (by omega) ?_
  unfold V_slices_Repeat_sl_int_int_k2
  rw [Nat.one_mul, wrap_of (by omega) (by omega)]
  refine RUN_make (α := Int) slt_int (d := 0) rfl (by omega) (by unfold maxLen; omega) fun r w1 hE1 hO1 => ?_
  have hrl : r.len = n := by rw [hO1.1]; simp
  refine RUN_copy (α := Int) rfl slt_int hO1 (off := 0) (d := r) (fun _ => by cases r.a <;> simp [add_zero']) (by simp [hrl]) (h.ext hE1) fun w2 hO2 hs2 _ => ?_
  have hE2 := hs2.ext0 hE1 (fun k hk => (hO1.blk k hk).1)
  refine ⟨fun x w' => ∃ k : Nat, x = k ∧ k ≤ n ∧ (0 < n → 0 < k) ∧ Ext w w' ∧ OwnL w' w.heap.size T.t_int r (List.replicate k v ++ List.replicate (n - k) 0), fun x _ => n - x.toNat, ⟨min 1 n, ?_, by omega, by omega, hE2, ?_⟩, ?_⟩
  · simp [hrl]
  · rcases Nat.eq_zero_or_pos n with h0 | h0
    · subst h0
      simpa [hrl] using hO2
    · have e1 : min 1 n = 1 := by omega
      rw [e1]
      have e2 : (List.take 0 (List.replicate n (0 : Int)) ++ List.take r.len [v] ++ List.drop (0 + min [v].length r.len) (List.replicate n 0)) = List.replicate 1 v ++ List.replicate (n - 1) 0 := by
        rw [hrl]
        simp [List.take_of_length_le (l := [v]) (i := n) (by simp; omega), e1]
      rw [← e2]; exact hO2
  rintro x w3 ⟨k, rfl, hk, hpos, hE3, hO3⟩
  intros
  refine cond_dec (fun hlt => ?_) (fun hge => ?_)
  · have hkn : k < n := by omega
    have hk0 : 0 < k := hpos (by omega)
    intro w4 hE4 hheap
    refine ⟨fun _ => True, ?_⟩
    have hcap : r.len ≤ r.cap := ((hO3.rep (by intro x hx; rcases List.mem_append.1 hx with h1 | h1 <;> rw [List.eq_of_mem_replicate h1]; exact hv; exact ⟨by decide, by decide⟩)).2.1).1
    refine SLC_from hcap (by omega) fun d hdl hda => ⟨Chg.refl _ _, ?_⟩
    refine SLC_to (by omega) fun y hyl hya hyc => ⟨Chg.refl _ _, ?_⟩
    have hO4 := hO3.ext hE4
    have hR4 := hO4.rep (by intro x hx; rcases List.mem_append.1 hx with h1 | h1 <;> rw [List.eq_of_mem_replicate h1]; exact hv; exact ⟨by decide, by decide⟩)
    have hRy : R w4 y (List.replicate k v) := by
      refine ⟨by simp [hyl], ⟨by omega, by have := hR4.2.1.2; omega⟩, fun i x hx => ?_⟩
      obtain ⟨a, cs, h1, _, h3, h4⟩ := hR4.2.2 i x (by
        obtain ⟨hi, _⟩ := List.getElem?_eq_some_iff.1 hx
        rw [List.getElem?_append_left hi]; exact hx)
      exact ⟨a, cs, by rw [hya]; exact h1, trivial, h3, h4⟩
    refine RUN_copy (α := Int) rfl slt_int hO4 (off := k) (d := d) (fun hd0 => by rw [hda (by omega)]; simp) (by simp; omega) hRy fun w5 hO5 hs5 _ => ?_
    rw [hdl, hrl] at hO5 ⊢
    rw [repl_step hk hk0] at hO5
    have hmin : min (List.replicate k v).length (n - k) = min k (n - k) := by simp
    refine ⟨.of_step hs5 fun _ _ => trivial, .of_step hs5 fun _ _ => trivial, ?_⟩
    rw [hmin, wrap_of (by omega) (by omega)]
    exact ⟨⟨k + min k (n - k), by omega, by omega, by omega, hs5.ext0 (hE3.trans hE4) (fun b hb => (hO4.blk b hb).1), hO5⟩, by show n - (_ : Int).toNat < n - (_ : Int).toNat; omega⟩
  · have : k = n := by omega
    subst this
    exact ⟨hE3, by simpa using hO3⟩

theorem noMatching_ok {w : World} {a b c : Sl} {n : Net} (h : RNet w a b c n) (hn : n.ends.length ≤ 1048576) :
    Calls Tryd.prog F.i_noMatching #[.agg #[a.v, b.v, c.v]] w (Ret [.at .sl] fun (r : Sl) w' => Ext w w' ∧ OwnL w' w.heap.size T.t_int r (List.replicate n.ends.length (-1))) := by
  refine C_i_noMatching ?_
  unfold V_i_noMatching
  refine NEW_intro fun p w1 hp hs hE hb1 => ?_
  replace h := h.ext hE
  refine RUN_lit1 (α := Int) slt_int (-1) rfl (by decide) fun r w2 hE2 hO2 => ?_
  replace h := h.ext hE2
  replace hb1 := hb1.ext hE2
  replace hE := hE.ext hE2
  refine LD_bs0 hb1 ?_
  rw [h.1.len]
  refine call (repeat_ok (hO2.rep (by intro x hx; simp at hx; subst hx; exact ⟨by decide, by decide⟩)).any ⟨by decide, by decide⟩ hn) ?_
  rintro r3 w3 ⟨hE3, hO3⟩
  exact ⟨hE.trans hE3, hO3.low hE.size_le⟩

theorem roFree_ok {n : Nat} (hn : n ≤ 1048576) (w : World) :
    Calls Tryd.prog F.s_roFree #[.int .i64 n] w (Ret [.at .sl] fun (r : Sl) w' => Ext w w' ∧ OwnL w' w.heap.size T.t_int r (List.replicate n (-1))) := by
  refine C_s_roFree ?_
  unfold V_s_roFree
  refine RUN_make (α := Int) slt_int (d := 0) rfl (by omega) (by unfold maxLen; omega) fun r w1 hE1 hO1 => ?_
  rw [hO1.1, List.length_replicate]
  refine ⟨IN n fun i w' => Ext w w' ∧ OwnL w' w.heap.size T.t_int r (List.replicate i (-1) ++ List.replicate (n - i) 0), MN n, IN_zero ⟨hE1, by simpa using hO1⟩, ?_⟩
  rintro x w2 ⟨i, rfl, hi, hE, hO⟩
  intros
  refine cond_dec (fun hlt => ?_) (fun hge => ?_)
  · have hi' : i < n := by omega
    refine IX_own hO (by simp; omega) rfl fun p hp => ?_
    refine ST_own hO (by simp; omega) hp (-1 : Int) rfl fun w3 hO3 hs => ?_
    refine IN_next (by omega) hi' ⟨hs.ext0 hE (fun k hk => (hO.blk k hk).1), ?_⟩
    have e : (List.replicate i (-1 : Int) ++ List.replicate (n - i) 0).set i (-1) = List.replicate (i + 1) (-1) ++ List.replicate (n - (i + 1)) 0 := by
      rw [List.set_append_right _ _ (by simp), List.length_replicate, Nat.sub_self, show n - i = (n - (i + 1)) + 1 by omega, List.replicate_succ, List.set_cons_zero, List.replicate_succ']
      simp
    rw [← e]; exact hO3
  · have : i = n := by omega
    subst this
    exact ⟨hE, by simpa using hO⟩

theorem mtFree_ok {w : World} {a b c : Sl} {n : Net} (h : RNet w a b c n) (hn : n.ends.length ≤ 1048576) :
    Calls Tryd.prog F.s_mtFree #[.agg #[a.v, b.v, c.v]] w (Ret [.at .sl] fun (r : Sl) w' => Ext w w' ∧ OwnL w' w.heap.size T.t_int r (List.replicate n.ends.length (-1))) := by
  refine C_s_mtFree ?_
  unfold V_s_mtFree
  refine NEW_intro fun p w1 hp hs hE hb1 => LD_bs0 hb1 ?_
  rw [h.1.len]
  refine call (roFree_ok hn w1) ?_
  rintro r3 w3 ⟨hE3, hO3⟩
  exact ⟨hE.trans hE3, hO3.low hE.size_le⟩

theorem l1Own_ok {w : World} {s : Sl} {l : List Int} (h : R w s l) (hl : l.length ≤ 1048576) :
    Calls Tryd.prog F.s_l1Own #[s.v] w (Ret [.at .sl] fun (r : Sl) w' => Ext w w' ∧ OwnL w' w.heap.size T.t_int r l) := by
  refine C_s_l1Own ?_
  unfold V_s_l1Own
  refine RUN_lit0 (α := Int) slt_int fun r w1 hE1 hO1 => ?_
  refine RUN_append (α := Int) slt_int hO1 hE1.size (h.ext hE1) (by simp; omega) (by simp [maxLen]; omega) fun r' w2 hO2 hs => ?_
  exact ⟨hs.ext0 hE1 (fun k hk => (hO1.blk k hk).1), by simpa using hO2⟩

end Go.Proofs.YtaeledhbkdakcaaDoor
end

section
/- slices.DeleteFunc at []int. -/
namespace Go.Proofs.YtaeledhbkdakcaaDoor
open Go.GX Go.RowKit
set_option maxRecDepth 100000

end Go.Proofs.YtaeledhbkdakcaaDoor
end

section
/- Matchings that are built edge by edge: GreedyMatching, both sides. -/
namespace Go.Proofs.YtaeledhbkdakcaaDoor
open Go.GX Go.RowKit
set_option maxRecDepth 100000



/-- An edge is taken. -/
def putE (m : List Int) (q : Edge) : List Int := (m.set q.1.toNat q.2.1).set q.2.2.1.toNat q.2.2.2
theorem putE_len (m : List Int) (q : Edge) : (putE m q).length = m.length := by simp [putE]
theorem putE_all {m : List Int} {q : Edge} {p : Int → Prop} (h : ∀ x ∈ m, p x) (h1 : p q.2.1) (h2 : p q.2.2.2) : ∀ x ∈ putE m q, p x := fun x hx => by
  rcases List.mem_or_eq_of_mem_set hx with h3 | h3
  · rcases List.mem_or_eq_of_mem_set h3 with h4 | h4
    · exact h x h4
    · rw [h4]; exact h1
  · rw [h3]; exact h2

theorem mtTake_ok {w : World} {a b c s : Sl} {n : Net} {m : List Int} (h : RNet w a b c n) (hm : R w s m) (hlen : m.length = n.ends.length) (hsm : m.length ≤ 1048576) {v i x y : Nat} (hp : port n.ends v i = some ((x : Int), (y : Int))) (hx : x < n.ends.length) :
    Calls Tryd.prog F.s_mtTake #[.agg #[a.v, b.v, c.v], s.v, .int .i64 v, .int .i64 i] w (Ret [.at .sl] fun (r : Sl) w' => Ext w w' ∧ OwnL w' w.heap.size T.t_int r (putE m ((v : Int), (i : Int), (x : Int), (y : Int)))) := by
  obtain ⟨hv, hi, hee⟩ := port_some hp
  refine C_s_mtTake ?_
  unfold V_s_mtTake
  refine NEW_intro fun p w1 hp hs hE hb1 => ?_
  replace h := h.ext hE
  replace hm := hm.ext hE
  refine call (l1Own_ok hm hsm) ?_
  rintro r w2 ⟨hE2, hO⟩
  have hvm : v < m.length := by omega
  have hxm : x < (m.set v (i : Int)).length := by simp; omega
  refine IX_own hO hvm rfl fun q hq => ?_
  refine ST_own hO hvm hq (i : Int) rfl fun w3 hO3 hs3 => ?_
  have hE3 := hs3.ext0 hE2 (fun k hk => (hO.blk k hk).1)
  intro w4 hE4 _
  have hE14 := hE3.trans hE4
  have hb4 := hb1.ext hE14
  have h4 := h.ext hE14
  have hO4 := hO3.ext hE4
  have hpl : p.block < w2.heap.size := by have := hb1.lt; have := hE2.size_le; omega
  refine ⟨fun _ => False, fun hf => hf, LD_bs0 hb4 ?_⟩
  refine h4.1.ixL hv fun q s1 hR hc => ⟨fun hf => hf, LD_sl hc ?_⟩
  refine hR.ixE hi fun q _ _ hc0 hc1 => ?_
  rw [hee] at hc0 hc1
  refine ⟨fun hf => hf, LD_int hc0 ⟨fun hf => hf, LD_bs0 hb4 ?_⟩⟩
  refine h4.1.ixL hv fun q2 s2 hR2 hc2 => ⟨fun hf => hf, LD_sl hc2 ⟨Chg.refl _ _, ?_⟩⟩
  refine hR2.ixE hi fun q2 _ _ hd0 hd1 => ⟨Chg.refl _ _, Chg.refl _ _, ?_⟩
  rw [hee] at hd0 hd1
  refine LD_int hd1 ⟨Chg.refl _ _, ?_⟩
  refine IX_own hO4 hxm rfl fun q3 hq3 => ?_
  refine ST_own hO4 hxm hq3 (y : Int) rfl fun w5 hO5 hs5 => ?_
  exact ⟨hE.trans (hs5.ext0 hE14 (fun k hk => (hO4.blk k hk).1)), hO5.low hE.size_le⟩

end Go.Proofs.YtaeledhbkdakcaaDoor
end

section
/- Plain facts on the first greatest matching: the sizes by sets, the search. No program in sight. -/
namespace Go.Proofs.YtaeledhbkdakcaaDoor
set_option maxRecDepth 100000

/-- A fold over a list with its places. -/
def foldP {α β : Type} (row : List β) (d : β) (f : α → Nat → β → α) (a : α) : Nat → α
  | 0 => a
  | i + 1 => f (foldP row d f a i) i (row.getD i d)
theorem foldP_congr {α β : Type} {row : List β} {d : β} {f g : α → Nat → β → α} {a : α} : ∀ n, (∀ x i, i < n → f x i (row.getD i d) = g x i (row.getD i d)) → foldP row d f a n = foldP row d g a n
  | 0, _ => rfl
  | n + 1, h => by
    show f (foldP row d f a n) n _ = g (foldP row d g a n) n _
    rw [foldP_congr n fun x i hi => h x i (by omega), h _ n (by omega)]

def rowG (E : Ends) (v : Nat) : List (Int × Int) := E.getD v []
theorem rowG_get {E : Ends} {v : Nat} (h : v < E.length) : rowG E v = E[v] := by unfold rowG; rw [List.getD_eq_getElem?_getD, List.getElem?_eq_getElem h]; rfl

/-- A node is taken out. -/
def outN (fr : Nat → Bool) (w : Nat) : Nat → Bool := fun u => fr u && decide (u ≠ w)
def mayE (v : Nat) (fr : Nat → Bool) (e : Int × Int) : Bool := decide (v < e.1.toNat) && fr e.1.toNat

/-- The greatest size of a matching of the free nodes among the last j ones. -/
def optV (E : Ends) (k : Nat) : Nat → (Nat → Bool) → Nat
  | 0, _ => 0
  | j + 1, fr => if fr (k - (j + 1)) then
      foldP (rowG E (k - (j + 1))) (0, 0) (fun best _ e => if mayE (k - (j + 1)) fr e then max best (1 + optV E k j (outN fr e.1.toNat)) else best) (optV E k j fr) (rowG E (k - (j + 1))).length
    else optV E k j fr
theorem optV_congr {E : Ends} {k : Nat} : ∀ j {fr gr : Nat → Bool}, j ≤ k → (∀ u, k - j ≤ u → fr u = gr u) → optV E k j fr = optV E k j gr
  | 0, _, _, _, _ => rfl
  | j + 1, fr, gr, hj, h => by
    have e0 : fr (k - (j + 1)) = gr (k - (j + 1)) := h _ (Nat.le_refl _)
    have e1 : optV E k j fr = optV E k j gr := optV_congr j (by omega) fun u hu => h u (by omega)
    show (if fr (k - (j + 1)) then _ else _) = (if gr (k - (j + 1)) then _ else _)
    rw [e0, e1]
    by_cases hg : gr (k - (j + 1)) = true
    · rw [if_pos hg, if_pos hg]
      refine foldP_congr _ fun x i _ => ?_
      by_cases hv : k - (j + 1) < ((rowG E (k - (j + 1))).getD i (0, 0)).1.toNat
      · have em : mayE (k - (j + 1)) fr ((rowG E (k - (j + 1))).getD i (0, 0)) = mayE (k - (j + 1)) gr ((rowG E (k - (j + 1))).getD i (0, 0)) := by
          unfold mayE; rw [h _ (by omega)]
        have eo : optV E k j (outN fr ((rowG E (k - (j + 1))).getD i (0, 0)).1.toNat) = optV E k j (outN gr ((rowG E (k - (j + 1))).getD i (0, 0)).1.toNat) := optV_congr j (by omega) fun u hu => by
          unfold outN; rw [h u (by omega)]
        simp only [em, eo]
      · have em : ∀ q : Nat → Bool, mayE (k - (j + 1)) q ((rowG E (k - (j + 1))).getD i (0, 0)) = false := fun q => by unfold mayE; rw [decide_eq_false hv]; rfl
        simp only [em]
        rfl
    · rw [if_neg hg, if_neg hg]
/-- Nodes that aren't free are passed over. -/
theorem optV_skip {E : Ends} {k i : Nat} {fr : Nat → Bool} : ∀ j, j ≤ k → i ≤ j → (∀ u, k - j ≤ u → u < k - i → fr u = false) → optV E k j fr = optV E k i fr
  | 0, _, hi, _ => by
    have : i = 0 := by omega
    subst this; rfl
  | j + 1, hj, hi, h => by
    by_cases e : i = j + 1
    · subst e; rfl
    · have h0 := h (k - (j + 1)) (Nat.le_refl _) (by omega)
      show (if fr (k - (j + 1)) then _ else optV E k j fr) = _
      rw [h0, if_neg (by simp)]
      exact optV_skip j (by omega) (by omega) fun u h1 h2 => h u (by omega) h2

/-! ### The search -/

def freeN (m : List Int) (u : Nat) : Bool := decide (u < m.length) && decide (at0 m u < 0)
def szN (m : List Int) : Nat := nonneg m / 2
def better (x y : List Int) : List Int := if szN x < szN y then y else x
theorem better_sz (x y : List Int) : szN (better x y) = max (szN x) (szN y) := by unfold better; split <;> omega
def takeP (m : List Int) (v i : Nat) (e : Int × Int) : List Int := putE m ((v : Int), (i : Int), e.1, e.2)
/-- The first one of the greatest matchings that carry a matching on, at the last j nodes. -/
def bst (E : Ends) (k : Nat) : Nat → List Int → List Int
  | 0, m => m
  | j + 1, m => if freeN m (k - (j + 1)) then
      foldP (rowG E (k - (j + 1))) (0, 0) (fun best i e => if mayE (k - (j + 1)) (freeN m) e then better best (bst E k j (takeP m (k - (j + 1)) i e)) else best) (bst E k j m) (rowG E (k - (j + 1))).length
    else bst E k j m

theorem takeP_len (m : List Int) (v i : Nat) (e : Int × Int) : (takeP m v i e).length = m.length := putE_len _ _
theorem takeP_at {m : List Int} {v i : Nat} {e : Int × Int} (hv : v < m.length) (hw : e.1.toNat < m.length) (u : Nat) : at0 (takeP m v i e) u = if e.1.toNat = u then e.2 else if v = u then (i : Int) else at0 m u := by
  unfold takeP putE
  rw [at0_set (by rw [List.length_set]; exact hw)]
  by_cases h1 : e.1.toNat = u
  · rw [if_pos h1, if_pos h1]
  · rw [if_neg h1, if_neg h1]
    show at0 (m.set ((v : Int)).toNat (i : Int)) u = _
    rw [Int.toNat_natCast, at0_set hv]
theorem freeN_take {m : List Int} {v i : Nat} {e : Int × Int} (hv : v < m.length) (hw : e.1.toNat < m.length) (he : 0 ≤ e.2) {u : Nat} (hu : v < u) : freeN (takeP m v i e) u = outN (freeN m) e.1.toNat u := by
  show (decide (u < (takeP m v i e).length) && decide (at0 (takeP m v i e) u < 0)) = ((decide (u < m.length) && decide (at0 m u < 0)) && decide (u ≠ e.1.toNat))
  rw [takeP_len, takeP_at hv hw]
  by_cases h1 : e.1.toNat = u
  · rw [if_pos h1]
    have : decide (u ≠ e.1.toNat) = false := decide_eq_false (by omega)
    rw [this, decide_eq_false (show ¬ e.2 < 0 by omega)]; simp
  · rw [if_neg h1, if_neg (by omega)]
    have : decide (u ≠ e.1.toNat) = true := decide_eq_true (by omega)
    rw [this]; simp

theorem countP_set {l : List Int} {p : Int → Bool} {i : Nat} {x : Int} (hi : i < l.length) (h0 : p l[i] = false) (h1 : p x = true) : (l.set i x).countP p = l.countP p + 1 := by
  induction l generalizing i with
  | nil => simp at hi
  | cons y t ih =>
    cases i with
    | zero => simp only [List.set_cons_zero, List.countP_cons]; simp only [List.getElem_cons_zero] at h0; rw [h0, h1]; simp
    | succ i =>
      simp only [List.set_cons_succ, List.countP_cons]
      have := ih (i := i) (by simpa using hi) (by simpa using h0)
      omega
theorem szN_take {m : List Int} {v i : Nat} {e : Int × Int} (hv : freeN m v = true) (hm : mayE v (freeN m) e = true) (he : 0 ≤ e.2) : szN (takeP m v i e) = szN m + 1 := by
  unfold freeN mayE at *
  simp only [Bool.and_eq_true, decide_eq_true_eq] at hv hm
  obtain ⟨hvl, hv0⟩ := hv
  obtain ⟨hvw, hwl, hw0⟩ := hm
  rw [at0_get hvl] at hv0
  rw [at0_get hwl] at hw0
  unfold szN takeP putE nonneg
  have c1 := countP_set (l := m) (p := fun x => decide (x ≥ 0)) (i := v) (x := (i : Int)) hvl (by simp; omega) (by simp)
  have hwl' : e.1.toNat < (m.set v (i : Int)).length := by rw [List.length_set]; exact hwl
  have c2 := countP_set (l := m.set v (i : Int)) (p := fun x => decide (x ≥ 0)) (i := e.1.toNat) (x := e.2) hwl' (by
    rw [List.getElem_set_ne (by omega)]; simp; omega) (by simp; omega)
  show List.countP _ ((m.set ((v : Int)).toNat (i : Int)).set e.1.toNat e.2) / 2 = _
  rw [Int.toNat_natCast, c2, c1]
  omega

/-- All ends of a network lie in it. -/
def EndsIn (E : Ends) (k : Nat) : Prop := ∀ v i, i < (rowG E v).length → 0 ≤ ((rowG E v).getD i (0, 0)).1 ∧ ((rowG E v).getD i (0, 0)).1 < k ∧ 0 ≤ ((rowG E v).getD i (0, 0)).2

theorem bst_len {E : Ends} {k : Nat} : ∀ j m, (bst E k j m).length = m.length
  | 0, _ => rfl
  | j + 1, m => by
    show (if freeN m (k - (j + 1)) then _ else bst E k j m).length = _
    split
    · have go : ∀ n, (foldP (rowG E (k - (j + 1))) (0, 0) (fun best i e => if mayE (k - (j + 1)) (freeN m) e then better best (bst E k j (takeP m (k - (j + 1)) i e)) else best) (bst E k j m) n).length = m.length := by
        intro n
        induction n with
        | zero => exact bst_len j m
        | succ n ih =>
          show (if mayE _ _ _ then better _ _ else _).length = _
          split
          · unfold better
            split
            · rw [bst_len j, takeP_len]
            · exact ih
          · exact ih
      exact go _
    · exact bst_len j m

/-- The size of what the search finds. -/
theorem bst_sz {E : Ends} {k : Nat} (hE : EndsIn E k) : ∀ j m, j ≤ k → m.length = k → szN (bst E k j m) = szN m + optV E k j (freeN m)
  | 0, m, _, _ => rfl
  | j + 1, m, hj, hm => by
    show szN (if freeN m (k - (j + 1)) then _ else bst E k j m) = szN m + (if freeN m (k - (j + 1)) then _ else optV E k j (freeN m))
    by_cases hf : freeN m (k - (j + 1)) = true
    · rw [if_pos hf, if_pos hf]
      have go : ∀ n, n ≤ (rowG E (k - (j + 1))).length → szN (foldP (rowG E (k - (j + 1))) (0, 0) (fun best i e => if mayE (k - (j + 1)) (freeN m) e then better best (bst E k j (takeP m (k - (j + 1)) i e)) else best) (bst E k j m) n)
          = szN m + foldP (rowG E (k - (j + 1))) (0, 0) (fun best _ e => if mayE (k - (j + 1)) (freeN m) e then max best (1 + optV E k j (outN (freeN m) e.1.toNat)) else best) (optV E k j (freeN m)) n := by
        intro n
        induction n with
        | zero => intro _; exact bst_sz hE j m (by omega) hm
        | succ n ih =>
          intro hn
          have ih' := ih (by omega)
          show szN (if mayE _ _ _ then better _ _ else _) = szN m + (if mayE _ _ _ then max _ _ else _)
          obtain ⟨e1, e2, e3⟩ := hE (k - (j + 1)) n (by omega)
          by_cases hmay : mayE (k - (j + 1)) (freeN m) ((rowG E (k - (j + 1))).getD n (0, 0)) = true
          · rw [if_pos hmay, if_pos hmay, better_sz, ih', bst_sz hE j _ (by omega) (by rw [takeP_len]; exact hm), szN_take hf hmay e3]
            have eo : optV E k j (freeN (takeP m (k - (j + 1)) n ((rowG E (k - (j + 1))).getD n (0, 0)))) = optV E k j (outN (freeN m) ((rowG E (k - (j + 1))).getD n (0, 0)).1.toNat) := optV_congr j (by omega) fun u hu => freeN_take (by omega) (by omega) e3 (by omega)
            rw [eo]
            omega
          · rw [if_neg hmay, if_neg hmay]; exact ih'
      exact go _ (Nat.le_refl _)
    · rw [if_neg hf, if_neg hf]; exact bst_sz hE j m (by omega) hm

/-- The first candidate that reaches a size which none exceeds. -/
theorem better_stay {β : Type} {row : List β} {d : β} {p : Nat → β → Bool} {c : Nat → β → List Int} {x : List Int} {M n : Nat} (hx : szN x = M) (h : ∀ i, i < n → p i (row.getD i d) = true → szN (c i (row.getD i d)) ≤ M) :
    foldP row d (fun best i e => if p i e then better best (c i e) else best) x n = x := by
  induction n with
  | zero => rfl
  | succ n ih =>
    show (if p n _ then better (foldP row d _ x n) _ else foldP row d _ x n) = x
    rw [ih fun i hi => h i (by omega)]
    split
    · rename_i hp
      have := h n (by omega) hp
      unfold better
      rw [if_neg (by omega)]
    · rfl
theorem foldP_le {β : Type} {row : List β} {d : β} {p : Nat → β → Bool} {c : Nat → β → Nat} {x n : Nat} {N : Nat} (hn : n ≤ N) : foldP row d (fun best i e => if p i e then max best (c i e) else best) x n ≤ foldP row d (fun best i e => if p i e then max best (c i e) else best) x N := by
  induction N with
  | zero => have : n = 0 := by omega
            subst this; exact Nat.le_refl _
  | succ N ih =>
    by_cases e : n = N + 1
    · subst e; exact Nat.le_refl _
    · refine Nat.le_trans (ih (by omega)) ?_
      show _ ≤ (if p N _ then max _ _ else _)
      split <;> omega
theorem foldP_ge {β : Type} {row : List β} {d : β} {p : Nat → β → Bool} {c : Nat → β → Nat} {x N i : Nat} (hi : i < N) (hp : p i (row.getD i d) = true) : c i (row.getD i d) ≤ foldP row d (fun best i e => if p i e then max best (c i e) else best) x N := by
  refine Nat.le_trans ?_ (foldP_le (show i + 1 ≤ N by omega))
  show _ ≤ (if p i _ then max _ _ else _)
  rw [if_pos hp]; omega
theorem foldP_hit {β : Type} {row : List β} {d : β} {p : Nat → β → Bool} {c : Nat → β → Nat} {x M : Nat} : ∀ N, foldP row d (fun best i e => if p i e then max best (c i e) else best) x N = M → x = M ∨ ∃ i, i < N ∧ p i (row.getD i d) = true ∧ c i (row.getD i d) = M
  | 0, h => .inl h
  | N + 1, h => by
    have h' : (if p N (row.getD N d) then max (foldP row d (fun best i e => if p i e then max best (c i e) else best) x N) (c N (row.getD N d)) else foldP row d (fun best i e => if p i e then max best (c i e) else best) x N) = M := h
    by_cases hp : p N (row.getD N d) = true
    · rw [if_pos hp] at h'
      by_cases h2 : foldP row d (fun best i e => if p i e then max best (c i e) else best) x N = M
      · rcases foldP_hit N h2 with h3 | ⟨i, hi, h3⟩
        · exact .inl h3
        · exact .inr ⟨i, by omega, h3⟩
      · exact .inr ⟨N, by omega, hp, by omega⟩
    · rw [if_neg hp] at h'
      rcases foldP_hit N h' with h3 | ⟨i, hi, h3⟩
      · exact .inl h3
      · exact .inr ⟨i, by omega, h3⟩

theorem bst_skip {E : Ends} {k j : Nat} {m : List Int} (hf : freeN m (k - (j + 1)) = false) : bst E k (j + 1) m = bst E k j m := by
  show (if freeN m (k - (j + 1)) then _ else bst E k j m) = _
  rw [hf, if_neg (by simp)]
theorem bst_cand {E : Ends} {k j i : Nat} {m : List Int} (hE : EndsIn E k) (hj : j + 1 ≤ k) (hm : m.length = k) (hf : freeN m (k - (j + 1)) = true) (hi : i < (rowG E (k - (j + 1))).length) (hp : mayE (k - (j + 1)) (freeN m) ((rowG E (k - (j + 1))).getD i (0, 0)) = true) :
    szN (bst E k j (takeP m (k - (j + 1)) i ((rowG E (k - (j + 1))).getD i (0, 0)))) = szN m + (1 + optV E k j (outN (freeN m) ((rowG E (k - (j + 1))).getD i (0, 0)).1.toNat)) := by
  obtain ⟨e1, e2, e3⟩ := hE (k - (j + 1)) i hi
  rw [bst_sz hE j _ (by omega) (by rw [takeP_len]; exact hm), szN_take hf hp e3]
  have eo : optV E k j (freeN (takeP m (k - (j + 1)) i ((rowG E (k - (j + 1))).getD i (0, 0)))) = optV E k j (outN (freeN m) ((rowG E (k - (j + 1))).getD i (0, 0)).1.toNat) := optV_congr j (by omega) fun u hu => freeN_take (by omega) (by omega) e3 (by omega)
  rw [eo]; omega
theorem optV_step {E : Ends} {k j : Nat} {fr : Nat → Bool} (hf : fr (k - (j + 1)) = true) : optV E k (j + 1) fr = foldP (rowG E (k - (j + 1))) (0, 0) (fun best _ e => if mayE (k - (j + 1)) fr e then max best (1 + optV E k j (outN fr e.1.toNat)) else best) (optV E k j fr) (rowG E (k - (j + 1))).length := by
  show (if fr (k - (j + 1)) then _ else _) = _
  rw [if_pos hf]
/-- A node stays free where that costs nothing. -/
theorem bst_free {E : Ends} {k j : Nat} {m : List Int} (hE : EndsIn E k) (hj : j + 1 ≤ k) (hm : m.length = k) (hf : freeN m (k - (j + 1)) = true) (h : optV E k j (freeN m) = optV E k (j + 1) (freeN m)) : bst E k (j + 1) m = bst E k j m := by
  show (if freeN m (k - (j + 1)) then _ else bst E k j m) = _
  rw [if_pos hf]
  refine better_stay (p := fun _ e => mayE (k - (j + 1)) (freeN m) e) (c := fun i e => bst E k j (takeP m (k - (j + 1)) i e)) (bst_sz hE j m (by omega) hm) fun i hi hp => ?_
  rw [bst_cand hE hj hm hf hi hp, h, optV_step hf]
  have := foldP_ge (row := rowG E (k - (j + 1))) (d := ((0 : Int), (0 : Int))) (p := fun _ e => mayE (k - (j + 1)) (freeN m) e) (c := fun _ e => 1 + optV E k j (outN (freeN m) e.1.toNat)) (x := optV E k j (freeN m)) hi hp
  omega
/-- .. else the first port that keeps the size. -/
theorem bst_take {E : Ends} {k j i : Nat} {m : List Int} (hE : EndsIn E k) (hj : j + 1 ≤ k) (hm : m.length = k) (hf : freeN m (k - (j + 1)) = true) (h : optV E k j (freeN m) ≠ optV E k (j + 1) (freeN m)) (hi : i < (rowG E (k - (j + 1))).length)
    (hp : mayE (k - (j + 1)) (freeN m) ((rowG E (k - (j + 1))).getD i (0, 0)) = true) (hn : 1 + optV E k j (outN (freeN m) ((rowG E (k - (j + 1))).getD i (0, 0)).1.toNat) = optV E k (j + 1) (freeN m))
    (hb : ∀ u, u < i → ¬ (mayE (k - (j + 1)) (freeN m) ((rowG E (k - (j + 1))).getD u (0, 0)) = true ∧ 1 + optV E k j (outN (freeN m) ((rowG E (k - (j + 1))).getD u (0, 0)).1.toNat) = optV E k (j + 1) (freeN m))) :
    bst E k (j + 1) m = bst E k j (takeP m (k - (j + 1)) i ((rowG E (k - (j + 1))).getD i (0, 0))) := by
  show (if freeN m (k - (j + 1)) then _ else bst E k j m) = _
  rw [if_pos hf]
  have hM := optV_step (E := E) (k := k) (j := j) (fr := freeN m) hf
  generalize hMM : optV E k (j + 1) (freeN m) = M at *
  have hle : ∀ u, u < (rowG E (k - (j + 1))).length → mayE (k - (j + 1)) (freeN m) ((rowG E (k - (j + 1))).getD u (0, 0)) = true → 1 + optV E k j (outN (freeN m) ((rowG E (k - (j + 1))).getD u (0, 0)).1.toNat) ≤ M := fun u hu hpu => by
    rw [hM]
    exact foldP_ge (row := rowG E (k - (j + 1))) (d := ((0 : Int), (0 : Int))) (p := fun _ e => mayE (k - (j + 1)) (freeN m) e) (c := fun _ e => 1 + optV E k j (outN (freeN m) e.1.toNat)) (x := optV E k j (freeN m)) hu hpu
  have hx0 : optV E k j (freeN m) < M := by
    have := foldP_le (row := rowG E (k - (j + 1))) (d := ((0 : Int), (0 : Int))) (p := fun _ e => mayE (k - (j + 1)) (freeN m) e) (c := fun _ e => 1 + optV E k j (outN (freeN m) e.1.toNat)) (x := optV E k j (freeN m)) (Nat.zero_le (rowG E (k - (j + 1))).length)
    rw [← hM] at this
    have h2 : foldP (rowG E (k - (j + 1))) ((0 : Int), (0 : Int)) (fun best _ e => if mayE (k - (j + 1)) (freeN m) e then max best (1 + optV E k j (outN (freeN m) e.1.toNat)) else best) (optV E k j (freeN m)) 0 = optV E k j (freeN m) := rfl
    rw [h2] at this
    omega
  generalize hG : (fun (best : List Int) (i : Nat) (e : Int × Int) => if mayE (k - (j + 1)) (freeN m) e then better best (bst E k j (takeP m (k - (j + 1)) i e)) else best) = G
  have low : ∀ n, n ≤ i → szN (foldP (rowG E (k - (j + 1))) (0, 0) G (bst E k j m) n) < szN m + M := by
    intro n
    induction n with
    | zero =>
      intro _
      show szN (bst E k j m) < _
      rw [bst_sz hE j m (by omega) hm]; omega
    | succ n ih =>
      intro hn'
      have ih' := ih (by omega)
      show szN (G (foldP _ _ G _ n) n _) < _
      rw [← hG] at ih' ⊢
      simp only []
      split
      · rename_i hpn
        rw [better_sz, bst_cand hE hj hm hf (by omega) hpn]
        have h1 := hle n (by omega) hpn
        have h2 := hb n (by omega)
        have h3 : 1 + optV E k j (outN (freeN m) ((rowG E (k - (j + 1))).getD n (0, 0)).1.toNat) ≠ M := fun e => h2 ⟨hpn, e⟩
        omega
      · exact ih'
  have hit : foldP (rowG E (k - (j + 1))) (0, 0) G (bst E k j m) (i + 1) = bst E k j (takeP m (k - (j + 1)) i ((rowG E (k - (j + 1))).getD i (0, 0))) := by
    have h1 := low i (Nat.le_refl _)
    have h2 := bst_cand hE hj hm hf hi hp
    show G (foldP _ _ G _ i) i _ = _
    generalize foldP (rowG E (k - (j + 1))) (0, 0) G (bst E k j m) i = y at *
    rw [← hG]
    simp only [hp, if_true]
    unfold better
    rw [if_pos (by omega)]
  have high : ∀ n, foldP (rowG E (k - (j + 1))) (0, 0) G (bst E k j m) (i + 1) = bst E k j (takeP m (k - (j + 1)) i ((rowG E (k - (j + 1))).getD i (0, 0))) → i + 1 + n ≤ (rowG E (k - (j + 1))).length → foldP (rowG E (k - (j + 1))) (0, 0) G (bst E k j m) (i + 1 + n) = bst E k j (takeP m (k - (j + 1)) i ((rowG E (k - (j + 1))).getD i (0, 0))) := by
    intro n h0
    induction n with
    | zero => intro _; exact h0
    | succ n ih =>
      intro hn'
      have ih' := ih (by omega)
      show G (foldP _ _ G _ (i + 1 + n)) (i + 1 + n) ((rowG E (k - (j + 1))).getD (i + 1 + n) (0, 0)) = _
      rw [ih', ← hG]
      simp only []
      split
      · rename_i hpn
        have h1 := hle (i + 1 + n) (by omega) hpn
        have h2 := bst_cand hE hj hm hf (show i + 1 + n < _ by omega) hpn
        have h3 := bst_cand hE hj hm hf hi hp
        unfold better
        rw [if_neg (by omega)]
      · rfl
  have := high ((rowG E (k - (j + 1))).length - (i + 1)) hit (by omega)
  rw [show i + 1 + ((rowG E (k - (j + 1))).length - (i + 1)) = (rowG E (k - (j + 1))).length by omega] at this
  exact this
/-- Some port keeps the size. -/
theorem opt_hit {E : Ends} {k j : Nat} {fr : Nat → Bool} (hf : fr (k - (j + 1)) = true) (h : optV E k j fr ≠ optV E k (j + 1) fr) : ∃ i, i < (rowG E (k - (j + 1))).length ∧ mayE (k - (j + 1)) fr ((rowG E (k - (j + 1))).getD i (0, 0)) = true ∧ 1 + optV E k j (outN fr ((rowG E (k - (j + 1))).getD i (0, 0)).1.toNat) = optV E k (j + 1) fr := by
  have hM := optV_step (E := E) (k := k) (j := j) (fr := fr) hf
  rcases foldP_hit (row := rowG E (k - (j + 1))) (d := ((0 : Int), (0 : Int))) (p := fun _ e => mayE (k - (j + 1)) fr e) (c := fun _ e => 1 + optV E k j (outN fr e.1.toNat)) (x := optV E k j fr) _ hM.symm with h1 | ⟨i, hi, hp, he⟩
  · exact absurd h1 h
  · exact ⟨i, hi, hp, he⟩

/-! ### Sets as numbers -/

def ctzN (s : Nat) : Nat := Go.Lib.ctz 64 s
theorem ctzN_spec {s : Nat} (h0 : s ≠ 0) (h : s < 2 ^ 64) : s.testBit (ctzN s) = true ∧ ∀ i, i < ctzN s → s.testBit i = false := by
  obtain ⟨q, hq, _⟩ := Go.Lib.ctzFrom_spec 64 s (by omega) h
  have hc : ctzN s = Go.Lib.ctzFrom 64 s := by unfold ctzN Go.Lib.ctz; rw [if_neg h0]
  rw [← hc] at hq
  generalize ctzN s = c at hq
  have hbit : ∀ i, s.testBit i = (decide (c ≤ i) && (2 * q + 1).testBit (i - c)) := fun i => by rw [hq, Nat.testBit_two_pow_mul]
  refine ⟨?_, fun i hi => ?_⟩
  · rw [hbit, Nat.sub_self]; simp [Nat.testBit_zero]
  · rw [hbit, decide_eq_false (by omega)]; rfl
/-- A set without a node. -/
def clrN (s v : Nat) : Nat := s &&& (2 ^ 64 - 1 - 2 ^ v)
def setF (s : Nat) : Nat → Bool := fun u => s.testBit u

end Go.Proofs.YtaeledhbkdakcaaDoor
end

section
/- GreatestMatching, the reference: a search that carries a matching on. -/
namespace Go.Proofs.YtaeledhbkdakcaaDoor
open Go.GX Go.RowKit
set_option maxRecDepth 100000

/-- What a search that found y makes of the best so far. -/
def joinB (bl y : List Int) : List Int := if bl = [] then y else better bl y
theorem better_assoc (x y z : List Int) : better (better x y) z = better x (better y z) := by
  unfold better
  by_cases h1 : szN x < szN y <;> by_cases h2 : szN y < szN z
  · simp only [h1, h2, if_true]
    rw [if_pos (by omega)]
  · simp only [h1, h2, if_true, if_false]
  · simp only [h1, h2, if_true, if_false]
  · simp only [h1, h2, if_false]
    rw [if_neg (by omega)]
theorem joinB_better {k : Nat} {bl x y : List Int} (hx : x.length = k) (hy : y.length = k) (hb : bl = [] ∨ bl.length = k) : joinB (joinB bl x) y = joinB bl (better x y) := by
  by_cases hk : k = 0
  · subst hk
    have e1 : x = [] := by cases x; rfl; simp at hx
    have e2 : y = [] := by cases y; rfl; simp at hy
    have e3 : bl = [] := by rcases hb with h | h; exact h; cases bl; rfl; simp at h
    subst e1 e2 e3
    unfold joinB better
    simp
  have nx : x ≠ [] := fun e => by subst e; simp at hx; omega
  unfold joinB
  by_cases h : bl = []
  · subst h
    rw [if_pos rfl, if_pos rfl, if_neg nx]
  · rw [if_neg h, if_neg h]
    have : better bl x ≠ [] := by unfold better; split <;> assumption
    rw [if_neg this, better_assoc]
theorem joinB_len {k : Nat} {bl y : List Int} (hy : y.length = k) : (joinB bl y).length = k ∨ (bl ≠ [] ∧ joinB bl y = bl) := by
  unfold joinB better
  split
  · exact .inl hy
  · rename_i h
    split
    · exact .inl hy
    · exact .inr ⟨h, rfl⟩

/-- A network that lies apart from a block. -/
structure NetB (w : World) (B : Nat) (a b c : Sl) (n : Net) : Prop where
  e : SlR (fun q => q ≠ B) w a n.ends
  i : SlR (fun q => q ≠ B) w b n.ids
  p : SlR (fun q => q ≠ B) w c n.inputs
theorem NetB.net {w : World} {B : Nat} {a b c : Sl} {n : Net} (h : NetB w B a b c n) : RNet w a b c n := ⟨h.e.any, h.i.any, h.p.any⟩
theorem NetB.chg {w w' : World} {B : Nat} {a b c : Sl} {n : Net} (h : NetB w B a b c n) (hc : Chg w w' (fun q => q = B)) : NetB w' B a b c n :=
  ⟨h.e.chg hc fun _ h1 _ h2 => h1 h2, h.i.chg hc fun _ h1 _ h2 => h1 h2, h.p.chg hc fun _ h1 _ h2 => h1 h2⟩
theorem NetB.ext {w w' : World} {B : Nat} {a b c : Sl} {n : Net} (h : NetB w B a b c n) (hE : Ext w w') : NetB w' B a b c n := h.chg (.of_ext hE)

/-- The state of a search. -/
structure TryS (w : World) (x0 : Addr) (a b c : Sl) (bl : List Int) : Prop where
  box : ∃ (s : Sl) (z : Int), Box w x0 T.t_s_mtSearch [a.v, b.v, c.v, s.v, .int .i64 z] ∧ SlR (fun q => q ≠ x0.block) w s bl ∧ (bl ≠ [] → z = (szN bl : Nat))
theorem TryS.ext {w w' : World} {x0 : Addr} {a b c : Sl} {bl : List Int} (h : TryS w x0 a b c bl) (hE : Ext w w') : TryS w' x0 a b c bl := by
  obtain ⟨s, z, hb, hr, hz⟩ := h.box
  exact ⟨s, z, hb.ext hE, hr.ext hE, hz⟩

theorem EndsIn.of_good {n : Net} (hg : Good n) : EndsIn n.ends n.ends.length := by
  intro v i hi
  by_cases hv : v < n.ends.length
  · rw [rowG_get hv] at hi ⊢
    rw [List.getD_eq_getElem?_getD, List.getElem?_eq_getElem hi]
    simp only [Option.getD_some]
    obtain ⟨x, y, he, hx, hb⟩ := hg.far hv hi
    rw [he]
    exact ⟨by show (0 : Int) ≤ (x : Nat); omega, by show ((x : Nat) : Int) < _; omega, by show (0 : Int) ≤ (y : Nat); omega⟩
  · unfold rowG at hi
    rw [List.getD_eq_getElem?_getD, List.getElem?_eq_none (by omega)] at hi
    simp at hi

/-- One field of a variable is written. -/
theorem ST_boxM {w : World} {p : Addr} {t : TypeId} {cs : List Value} {i : Nat} {v : Value} {K : World → Prop} (h : Box w p t cs) (hi : i < cs.length) (h1 : v.oneCell' = true)
    (hk : ∀ w', Chg w w' (fun c => c = p.block) → w'.heap.size = w.heap.size → Box w' p t (cs.set i v) → K w') : GX.ST (p.add i) 0 [v] w K :=
  ST_box1 h hi h1 fun w' hz hb hX hB => by
    have hE := hX { w with heap := #[] } ⟨rfl, rfl, rfl, Nat.zero_le _, fun k hk => absurd hk (Nat.not_lt_zero k)⟩ (Nat.zero_le _)
    exact hk w' ⟨hE.os, hE.tape, hE.output, by omega, fun k _ hn => hb k hn⟩ hz hB
theorem half_szN {m : List Int} (h : m.length ≤ 1048576) : half (nonneg m) = (szN m : Nat) := by
  have h1 : nonneg m ≤ m.length := List.countP_le_length
  unfold half szN
  rw [Int.tdiv_eq_ediv_of_nonneg (by omega), wrap_of (by omega) (by omega)]
  omega

theorem freeN_iff {m : List Int} {u : Nat} (h : u < m.length) : freeN m u = decide (m[u] < 0) := by
  unfold freeN
  simp only [decide_eq_true h, Bool.true_and, at0_get h]

theorem try_ok {n : Net} (hg : Good n) {a b c : Sl} {x0 : Addr} : ∀ (j : Nat) {w : World} {s : Sl} {m bl : List Int}, j ≤ n.ends.length → NetB w x0.block a b c n → TryS w x0 a b c bl → (bl = [] ∨ bl.length = n.ends.length) →
    SlR (fun q => q ≠ x0.block) w s m → m.length = n.ends.length →
    Calls Tryd.prog F.ptr_s_mtSearch_try #[.pointer (some x0), .int .i64 ((n.ends.length - j : Nat) : Int), s.v] w (Ret [] fun w' => Chg w w' (fun q => q = x0.block) ∧ TryS w' x0 a b c (joinB bl (bst n.ends n.ends.length j m)))
  | 0, w, s, m, bl, hj, hN, hT, hbl, hm, hml => by
    have h40 := hg.size.2
    refine C_ptr_s_mtSearch_try ?_
    unfold V_ptr_s_mtSearch_try
    rw [hm.len]
    refine cond_t (by simp; omega) ?_
    refine call (mtSize_ok hm.any (by omega)) ?_
    rintro z _ ⟨rfl, rfl⟩
    rw [half_szN (by omega)]
    obtain ⟨s0, z0, hb, hr, hz⟩ := hT.box
    refine LD_sl (hb.cell (i := 3) rfl) ?_
    rw [hr.len]
    refine cond_eq (fun h0 => ?_) (fun h0 => ?_)
    · have e : bl = [] := List.length_eq_zero_iff.1 (by omega)
      subst e
      refine ST_boxM hb (by simp) rfl fun w2 hC2 _ hb2 => ?_
      refine ST_boxM hb2 (by simp) rfl fun w3 hC3 _ hb3 => ?_
      have hC := hC2.trans hC3
      exact ⟨hC, ⟨s, _, hb3, hm.chg hC (fun _ h1 _ h2 => h1 h2), fun _ => rfl⟩⟩
    · have e : bl ≠ [] := fun e => h0 (by rw [e]; rfl)
      refine LD_int (hb.cell (i := 4) rfl) ?_
      rw [hz e]
      refine cond_dec (fun hgt => ?_) (fun hle => ?_)
      · refine ST_boxM hb (by simp) rfl fun w2 hC2 _ hb2 => ?_
        refine ST_boxM hb2 (by simp) rfl fun w3 hC3 _ hb3 => ?_
        have hC := hC2.trans hC3
        have e1 : joinB bl (bst n.ends n.ends.length 0 m) = m := by
          unfold joinB; rw [if_neg e]; show better bl m = m; unfold better; rw [if_pos (by omega)]
        rw [e1]
        exact ⟨hC, ⟨s, _, hb3, hm.chg hC (fun _ h1 _ h2 => h1 h2), fun _ => rfl⟩⟩
      · have e1 : joinB bl (bst n.ends n.ends.length 0 m) = bl := by
          unfold joinB; rw [if_neg e]; show better bl m = bl; unfold better; rw [if_neg (by omega)]
        rw [e1]
        exact ⟨Chg.refl _ _, hT⟩
  | j + 1, w, s, m, bl, hj, hN, hT, hbl, hm, hml => by
    have h40 := hg.size.2
    have ih := @try_ok n hg a b c x0 j
    have hE' := EndsIn.of_good hg
    refine C_ptr_s_mtSearch_try ?_
    unfold V_ptr_s_mtSearch_try
    rw [hm.len]
    refine cond_f (by simp; omega) ?_
    have hv : n.ends.length - (j + 1) < m.length := by omega
    have hv' : n.ends.length - (j + 1) < n.ends.length := by omega
    have ev : IntKind.i64.wrap (((n.ends.length - (j + 1) : Nat) : Int) + 1) = ((n.ends.length - j : Nat) : Int) := by rw [wrap_of (by omega) (by omega)]; omega
    rw [ev]
    refine hm.ixI hv fun q hq hc => LD_int hc ?_
    refine cond_dec (fun hge => ?_) (fun hlt => ?_)
    · have hf : freeN m (n.ends.length - (j + 1)) = false := by
        rw [freeN_iff hv, decide_eq_false (by omega)]
      rw [bst_skip hf]
      refine call (ih (by omega) hN hT hbl hm hml) ?_
      exact fun w' h => h
    have hf : freeN m (n.ends.length - (j + 1)) = true := by
      rw [freeN_iff hv, decide_eq_true (by omega)]
    refine call (ih (by omega) hN hT hbl hm hml) ?_
    rintro w7 ⟨hC7, hT7⟩
    have hN7 := hN.chg hC7
    obtain ⟨s7, z7, hb7, _, _⟩ := hT7.box
    refine LD_bs0 hb7 ?_
    refine hN7.e.ixL hv' fun q r hr hc => LD_sl hc ?_
    have hrow := rowG_get hv'
    have hbst : bst n.ends n.ends.length (j + 1) m = foldP (rowG n.ends (n.ends.length - (j + 1))) (0, 0) (fun best i e => if mayE (n.ends.length - (j + 1)) (freeN m) e then better best (bst n.ends n.ends.length j (takeP m (n.ends.length - (j + 1)) i e)) else best) (bst n.ends n.ends.length j m) (rowG n.ends (n.ends.length - (j + 1))).length := by
      show (if _ then _ else _) = _
      rw [if_pos hf]
    rw [hbst]
    generalize hG : (fun (best : List Int) (i : Nat) (e : Int × Int) => if mayE (n.ends.length - (j + 1)) (freeN m) e then better best (bst n.ends n.ends.length j (takeP m (n.ends.length - (j + 1)) i e)) else best) = G
    rw [hrow]
    rw [hr.len]
    refine ⟨IN n.ends[n.ends.length - (j + 1)].length fun i w' => Chg w7 w' (fun q => q = x0.block) ∧ TryS w' x0 a b c (joinB bl (foldP n.ends[n.ends.length - (j + 1)] (0, 0) G (bst n.ends n.ends.length j m) i)) ∧ (foldP n.ends[n.ends.length - (j + 1)] (0, 0) G (bst n.ends n.ends.length j m) i).length = n.ends.length, MN n.ends[n.ends.length - (j + 1)].length, IN_zero ⟨Chg.refl _ _, hT7, by show (bst _ _ _ _).length = _; rw [bst_len, hml]⟩, ?_⟩
    rintro _ w8 ⟨i, rfl, hi, hC8, hT8, hl8⟩
    intros
    refine cond_dec (fun hlt8 => ?_) (fun hge8 => ?_)
    · have hi' : i < n.ends[n.ends.length - (j + 1)].length := by omega
      obtain ⟨x, y, he, hx, hb⟩ := hg.far hv' hi'
      have hp : port n.ends (n.ends.length - (j + 1)) i = some ((x : Int), (y : Int)) := by rw [port_get hv' hi', he]
      obtain ⟨_, hy, _⟩ := port_some hb
      have hy6 := hg.deg hx
      have hdi := hg.deg hv'
      have hC78 := hC7.trans hC8
      have hr8 := hr.chg hC8 fun _ h1 _ h2 => h1 h2
      have hm8 := hm.chg hC78 fun _ h1 _ h2 => h1 h2
      have hN8 := hN.chg hC78
      have hgd : n.ends[n.ends.length - (j + 1)].getD i (0, 0) = ((x : Int), (y : Int)) := by rw [List.getD_eq_getElem?_getD, List.getElem?_eq_getElem hi']; exact he
      have hstep : foldP n.ends[n.ends.length - (j + 1)] (0, 0) G (bst n.ends n.ends.length j m) (i + 1) = G (foldP n.ends[n.ends.length - (j + 1)] (0, 0) G (bst n.ends n.ends.length j m) i) i ((x : Int), (y : Int)) := by
        show G _ i _ = _
        rw [hgd]
      have hskip : mayE (n.ends.length - (j + 1)) (freeN m) ((x : Int), (y : Int)) = false → foldP n.ends[n.ends.length - (j + 1)] (0, 0) G (bst n.ends n.ends.length j m) (i + 1) = foldP n.ends[n.ends.length - (j + 1)] (0, 0) G (bst n.ends n.ends.length j m) i := fun h => by
        rw [hstep, ← hG]
        simp only [h]
        rfl
      refine hr8.ixE hi' fun q _ _ hc0 hc1 => ?_
      rw [he] at hc0 hc1
      refine LD_int2 hc0 hc1 ?_
      refine NEW_ST (one2 _ _) rfl fun px w10 hpx hE10 hbx => ?_
      have hC10 := hC8.trans (.of_ext hE10)
      have hT10 := hT8.ext hE10
      have hm10 := hm8.ext hE10
      have hN10 := hN8.ext hE10
      refine LD_bi0 hbx ?_
      have hxm : x < m.length := by omega
      have hnext : mayE (n.ends.length - (j + 1)) (freeN m) ((x : Int), (y : Int)) = false → _ := fun h => IN_next (w := w10) (by omega) hi' (I := fun i w' => Chg w7 w' (fun q => q = x0.block) ∧ TryS w' x0 a b c (joinB bl (foldP n.ends[n.ends.length - (j + 1)] (0, 0) G (bst n.ends n.ends.length j m) i)) ∧ (foldP n.ends[n.ends.length - (j + 1)] (0, 0) G (bst n.ends n.ends.length j m) i).length = n.ends.length) (w' := w8) (by
        show _ ∧ _ ∧ _
        rw [hskip h]; exact ⟨hC10, hT10, hl8⟩)
      refine cond_dec (fun hgt => ?_) (fun hngt => hnext (by unfold mayE; simp only [Int.toNat_natCast]; rw [decide_eq_false (by omega)]; rfl))
      refine LD_bi0 hbx ?_
      refine hm10.ixI hxm fun q _ hc => LD_int hc ?_
      refine cond_dec (fun hneg => ?_) (fun hnn => hnext (by
        unfold mayE; simp only [Int.toNat_natCast]
        rw [freeN_iff hxm, decide_eq_false hnn, Bool.and_false]))
      have hmay : mayE (n.ends.length - (j + 1)) (freeN m) ((x : Int), (y : Int)) = true := by
        unfold mayE; simp only [Int.toNat_natCast]
        rw [freeN_iff hxm, decide_eq_true hneg, decide_eq_true (by omega)]; rfl
      obtain ⟨s10, z10, hb10, _, _⟩ := hT10.box
      refine LD_box3 (p := x0) hb10 ?_
      refine call (mtTake_ok hN10.net hm10.any hml (by omega) hp hx) ?_
      rintro t w11 ⟨hE11, hO11⟩
      have hO64 : ∀ z ∈ putE m (((n.ends.length - (j + 1) : Nat) : Int), (i : Int), (x : Int), (y : Int)), I64 z :=
        putE_all (fun z hz => hm10.any.oks z hz) ⟨by show (-9223372036854775808 : Int) ≤ (i : Nat); omega, by show ((i : Nat) : Int) ≤ _; omega⟩ ⟨by show (-9223372036854775808 : Int) ≤ (y : Nat); omega, by show ((y : Nat) : Int) ≤ _; omega⟩
      have hxl : x0.block < w10.heap.size := hb10.lt
      have hR11 : SlR (fun q => q ≠ x0.block) w11 t (putE m (((n.ends.length - (j + 1) : Nat) : Int), (i : Int), (x : Int), (y : Int))) := (hO11.rep hO64).weak (fun q h1 _ h2 => by omega) (by decide)
      have hblj : joinB bl (foldP n.ends[n.ends.length - (j + 1)] (0, 0) G (bst n.ends n.ends.length j m) i) = [] ∨ (joinB bl (foldP n.ends[n.ends.length - (j + 1)] (0, 0) G (bst n.ends n.ends.length j m) i)).length = n.ends.length := by
        rcases joinB_len (bl := bl) hl8 with h | ⟨h1, h2⟩
        · exact .inr h
        · rw [h2]; exact hbl
      refine call (ih (by omega) (hN10.ext hE11) (hT10.ext hE11) hblj hR11 (by rw [putE_len, hml])) ?_
      rintro w12 ⟨hC12, hT12⟩
      refine IN_next (by omega) hi' ⟨(hC10.trans (.of_ext hE11)).trans hC12, ?_⟩
      have hlb : (bst n.ends n.ends.length j (takeP m (n.ends.length - (j + 1)) i ((x : Int), (y : Int)))).length = n.ends.length := by rw [bst_len, takeP_len, hml]
      have hnew : foldP n.ends[n.ends.length - (j + 1)] (0, 0) G (bst n.ends n.ends.length j m) (i + 1) = better (foldP n.ends[n.ends.length - (j + 1)] (0, 0) G (bst n.ends n.ends.length j m) i) (bst n.ends n.ends.length j (takeP m (n.ends.length - (j + 1)) i ((x : Int), (y : Int)))) := by
        rw [hstep, ← hG]
        simp only [hmay, if_true]
      rw [hnew]
      refine ⟨?_, ?_⟩
      · rw [← joinB_better hl8 hlb hbl]
        exact hT12
      · unfold better; split <;> assumption
    · have : i = n.ends[n.ends.length - (j + 1)].length := by omega
      subst this
      exact ⟨hC7.trans hC8, hT8⟩

/-- Was a greatest matching asked for? -/
def GmAsked (n : Net) : Prop := Good n ∧ n.ends.length ≤ 14
def gmOf (n : Net) : List Int := bst n.ends n.ends.length n.ends.length (List.replicate n.ends.length (-1))

theorem sGreatestMatching_ok {w : World} {a b c : Sl} {n : Net} (h : RNet w a b c n) :
    Calls Tryd.prog F.s_GreatestMatching #[.agg #[a.v, b.v, c.v]] w (Ret [.at .sl, .at .bool] fun (r : Sl) (y : Bool) w' => Ext w w' ∧ ∃ m, R w' r m ∧ AnsG (GmAsked n) (gmOf n) [] m y) := by
  refine C_s_GreatestMatching ?_
  unfold V_s_GreatestMatching
  refine NEW_intro fun p w1 hp hs hE hb1 => LD_box3 hb1 ?_
  replace h := h.ext hE
  refine call (neGood_ok h) ?_
  rintro x w2 ⟨hx, hE2⟩
  replace h := h.ext hE2
  replace hb1 := hb1.ext hE2
  replace hE := hE.ext hE2
  refine cond_not (fun hf => ⟨hE, [], ((OwnL.nil _ 0 T.t_int).rep (by simp)).any, .no fun hg => ?_⟩) (fun ht => ?_)
  · rw [hx.2 hg.1] at hf; cases hf
  have hg := hx.1 ht
  refine LD_bs0 hb1 ?_
  rw [h.1.len]
  refine cond_dec (fun hgt => ⟨hE, [], ((OwnL.nil _ 0 T.t_int).rep (by simp)).any, .no fun hg => ?_⟩) (fun hle => ?_)
  · have := hg.2; omega
  refine LD_box3 hb1 ?_
  refine NEW_intro fun p6 w6 hp6 hs6 hE6 hb6 => LD_box3 (hb1.ext hE6) ?_
  have h6 := h.ext hE6
  refine call (mtFree_ok h6 (by omega)) ?_
  rintro s0 w7 ⟨hE7, hO7⟩
  have hpl : ∀ q, q < w2.heap.size → q ≠ p6.block := fun q hq e => by omega
  have hN7 : NetB w7 p6.block a b c n := by
    have hE27 := hE6.trans hE7
    exact ⟨(h.1.below.ext hE27).weak (fun q h1 _ => hpl q h1.2) RepP.pos, (h.2.1.below.ext hE27).weak (fun q h1 _ => hpl q h1.2) RepP.pos, (h.2.2.below.ext hE27).weak (fun q h1 _ => hpl q h1.2) RepP.pos⟩
  have hT7 : TryS w7 p6 a b c [] := ⟨⟨⟨none, 0, 0⟩, 0, hb6.ext hE7, ⟨rfl, ⟨Nat.le_refl _, by decide⟩, fun i x hx => by simp at hx⟩, fun h => absurd rfl h⟩⟩
  have hI : ∀ z ∈ List.replicate n.ends.length (-1 : Int), I64 z := fun z hz => by rw [List.eq_of_mem_replicate hz]; exact ⟨by decide, by decide⟩
  have hR7 : SlR (fun q => q ≠ p6.block) w7 s0 (List.replicate n.ends.length (-1)) := (hO7.rep hI).weak (fun q h1 _ h2 => by have := hb6.lt; omega) RepP.pos
  have hcall := try_ok hg (w := w7) n.ends.length (Nat.le_refl _) hN7 hT7 (.inl rfl) hR7 (by simp)
  rw [Nat.sub_self] at hcall
  refine call hcall ?_
  rintro w8 ⟨hC8, hT8⟩
  obtain ⟨s8, z8, hb8, hr8, _⟩ := hT8.box
  refine LD_sl (hb8.cell (i := 3) rfl) ?_
  exact ⟨hE.trans (hC8.ext0 (hE6.trans hE7) fun k hk => by omega), _, hr8.any, .yes ⟨hg, by omega⟩⟩

end Go.Proofs.YtaeledhbkdakcaaDoor
end

section
/- The kit's structure for math/bits.TrailingZeros64, laid at this program by the kit's own tools, in plain words. -/
namespace Go.Proofs.YtaeledhbkdakcaaDoor
open Go.Shelf
def Srt.lays727_ren : Go.Shelf.Ren := ⟨fun | 27 => 52 | 28 => 80 | 29 => 81 | n => n, fun | 25 => 55 | 3 => 3 | 27 => 118 | 22 => 120 | 4 => 4 | 53 => 138 | 0 => 0 | 5 => 5 | 54 => 139 | n => n, fun | 0 => 0 | 1 => 1 | n => n⟩
theorem Srt.lays727 : Go.Proofs.Lays7.n27 Tryd.prog Srt.lays727_ren := {
  mixed := by kernel_rfl
  f27 := Tryd.func52.trans (congrArg some (by kernel_rfl))
  f28 := Tryd.func80.trans (congrArg some (by kernel_rfl))
  f29 := Tryd.func81.trans (congrArg some (by kernel_rfl))
  t0 := Tryd.underlying0
  a0 := Tryd.isAgg0
  z0 := Tryd.sizeOf0
  v0 := Tryd.zeroValue0
  i0 := by kernel_rfl
  t3 := Tryd.underlying3
  a3 := Tryd.isAgg3
  z3 := Tryd.sizeOf3
  v3 := Tryd.zeroValue3
  i3 := by kernel_rfl
  t4 := Tryd.underlying4
  a4 := Tryd.isAgg4
  z4 := Tryd.sizeOf4
  v4 := Tryd.zeroValue4
  i4 := by kernel_rfl
  t5 := Tryd.underlying5
  a5 := Tryd.isAgg5
  z5 := Tryd.sizeOf5
  v5 := Tryd.zeroValue5
  i5 := by kernel_rfl
  t22 := Tryd.underlying120
  a22 := Tryd.isAgg120
  z22 := Tryd.sizeOf120
  v22 := Tryd.zeroValue120
  i22 := by kernel_rfl
  t25 := Tryd.underlying55
  a25 := Tryd.isAgg55
  z25 := Tryd.sizeOf55
  v25 := Tryd.zeroValue55
  i25 := by kernel_rfl
  t27 := Tryd.underlying118
  a27 := Tryd.isAgg118
  z27 := Tryd.sizeOf118
  v27 := Tryd.zeroValue118
  i27 := by kernel_rfl
  t53 := Tryd.underlying138
  a53 := Tryd.isAgg138
  z53 := Tryd.sizeOf138
  v53 := Tryd.zeroValue138
  i53 := by kernel_rfl
  t54 := Tryd.underlying139
  a54 := Tryd.isAgg139
  z54 := Tryd.sizeOf139
  g0 := by kernel_rfl
  g1 := by kernel_rfl }
end Go.Proofs.YtaeledhbkdakcaaDoor
end

section
/- GreatestMatching, the program: the map of the sizes that are known, sets as numbers, the table of trailing zeros. -/
namespace Go.Proofs.YtaeledhbkdakcaaDoor
open Go.GX Go.RowKit Go.MapKept
set_option maxRecDepth 100000

/-- The table's variable holds the table, apart from a block. -/
def GTB (w : World) (B : Nat) : Prop := TabAt (Srt.lays727_ren.g 1) Go.Lib.deBruijn64tab w ∧ Srt.lays727_ren.g 1 ≠ B
theorem GTB.chg {w w' : World} {B : Nat} (h : GTB w B) (hc : Chg w w' (fun q => q = B)) : GTB w' B := ⟨fun j hj => by
  have h1 := h.1 j hj
  rw [World.cell?_of_block (hc.block _ (cell_lt h1) h.2)]; exact h1, h.2⟩
/-- The table's variable holds the table. -/
def GT (w : World) : Prop := TabAt (Srt.lays727_ren.g 1) Go.Lib.deBruijn64tab w
theorem GT.ext {w w' : World} (h : GT w) (hE : Ext w w') : GT w' := fun j hj => by
  have hc := h j hj
  rw [World.cell?_of_block (hE.same (cell_lt hc))]; exact hc
theorem GT.lt {w : World} (h : GT w) : Srt.lays727_ren.g 1 < w.heap.size := cell_lt (h 0 (by decide))

theorem tz_ok {w : World} {B : Nat} (g : GTB w B) {x : Nat} (hx : x < 18446744073709551616) :
    Calls Tryd.prog F.math_bits_TrailingZeros #[.int .u64 (x : Int)] w (Ret [.at (.int .i64)] fun (r : Int) w' => r = ((ctzN x : Nat) : Int) ∧ w = w') := by
  refine (Any7.bits_TrailingZeros Srt.lays727 x hx w fun _ => g.1).mono ?_
  rintro e w' ⟨rfl, rfl⟩
  exact ⟨rfl, rfl⟩

/-- What the map holds is right. -/
def MemoR (w : World) (b : Nat) (g : Nat → Nat → Prop) : Prop := ∃ es clock, w.heap[b]? = some (.map es clock) ∧ ∀ x ∈ es.toList, ∃ s v : Nat, x.key = .int .u64 (s : Int) ∧ x.val = .int .i64 (v : Int) ∧ g s v
theorem MemoR.of_block {w w' : World} {b : Nat} {g : Nat → Nat → Prop} (h : MemoR w b g) (hb : w'.heap[b]? = w.heap[b]?) : MemoR w' b g := by
  obtain ⟨es, c, h1, h2⟩ := h
  exact ⟨es, c, hb.trans h1, h2⟩
theorem MemoR.lt {w : World} {b : Nat} {g : Nat → Nat → Prop} (h : MemoR w b g) : b < w.heap.size := by
  obtain ⟨es, c, h1, _⟩ := h
  exact (Array.getElem?_eq_some_iff.1 h1).1
theorem MemoR.ext {w w' : World} {b : Nat} {g : Nat → Nat → Prop} (h : MemoR w b g) (hE : Ext w w') : MemoR w' b g := h.of_block (hE.same h.lt)

theorem und_map : Tryd.prog.underlying T.t_map_uint_int = some (.map T.t_uint T.t_int) := by kernel_rfl
theorem und_uint : Tryd.prog.underlying T.t_uint = some (.int .u64) := by kernel_rfl
theorem RUNR_memo {w : World} {b : Nat} {g : Nat → Nat → Prop} (hM : MemoR w b g) (s : Nat) {K : Int → Bool → World → Prop} (h1 : ∀ v, g s v → K (v : Int) true w) (h2 : K 0 false w) :
    RUNR Tryd.prog [.at (.int .i64), .at .bool] (Instr.lookup T.t_map_uint_int (.map (some b)) (.int .u64 (s : Int)) true) w K := by
  obtain ⟨es, c, hb, hes⟩ := hM
  have hks : ∀ x ∈ es.toList, IsKey (.int .u64) x.key := fun x hx => by
    obtain ⟨s', v', e, _⟩ := hes x hx
    rw [e]; rfl
  have hk : IsKey (.int .u64) (.int .u64 (s : Int)) := rfl
  have hck : ∀ q, (Instr.checkKey q 10000 T.t_uint (.int .u64 (s : Int))).run Tryd.prog w = .ok () w := fun q => Go.MapKept.run_checkKey und_uint hk q 9999
  unfold RUNR
  rcases findNow_spec hk es.toList 0 hks with ⟨f1, _⟩ | ⟨j, e, f1, f2, f3⟩
  · have hr : (Instr.lookup T.t_map_uint_int (.map (some b)) (.int .u64 (s : Int)) true).run Tryd.prog w = .ok (.tuple #[.int .i64 0, .bool false]) w := by
      simp [Instr.lookup, run_underlying und_map, Go.MapKept.run_getObj_map hb, hck, Go.MapKept.run_findKey und_uint f1, Result.andThen]
    rw [hr]
    exact h2
  · obtain ⟨s', v', e1, e2, e3⟩ := hes e (List.mem_of_getElem? f2)
    have hr : (Instr.lookup T.t_map_uint_int (.map (some b)) (.int .u64 (s : Int)) true).run Tryd.prog w = .ok (.tuple #[.int .i64 (v' : Int), .bool true]) w := by
      simp [Instr.lookup, run_underlying und_map, Go.MapKept.run_getObj_map hb, hck, Go.MapKept.run_findKey und_uint f1, e2, Result.andThen]
    rw [hr]
    have : s = s' := by
      rw [e1] at f3
      injection f3 with _ h
      omega
    subst this
    exact h1 v' e3

theorem set_chg {w : World} {b : Nat} {o o' : Obj} (hb : w.heap[b]? = some o) : Chg w { w with heap := w.heap.setIfInBounds b o' } (fun q => q = b) :=
  ⟨rfl, rfl, rfl, by simp, fun k _ hn => (heap_set hb).2 k hn⟩

theorem RUN_memo {w : World} {b : Nat} {g : Nat → Nat → Prop} (hM : MemoR w b g) {s v : Nat} (hg : g s v) {K : Value → World → Prop} (hk : ∀ x w', Chg w w' (fun q => q = b) → MemoR w' b g → K x w') :
    RUN Tryd.prog (.at .val) (do Instr.mapUpdate T.t_map_uint_int (.map (some b)) (.int .u64 (s : Int)) (.int .i64 (v : Int)); pure undef) w K := by
  obtain ⟨es, c, hb, hes⟩ := hM
  have hks : ∀ x ∈ es.toList, IsKey (.int .u64) x.key := fun x hx => by
    obtain ⟨s', v', e, _⟩ := hes x hx
    rw [e]; rfl
  have hkk : IsKey (.int .u64) (.int .u64 (s : Int)) := rfl
  have hck : ∀ q, (Instr.checkKey q 10000 T.t_uint (.int .u64 (s : Int))).run Tryd.prog w = .ok () w := fun q => Go.MapKept.run_checkKey und_uint hkk q 9999
  unfold RUN
  rcases findNow_spec hkk es.toList 0 hks with ⟨f1, _⟩ | ⟨j, e, f1, f2, f3⟩
  · have hr : (Instr.mapUpdate T.t_map_uint_int (.map (some b)) (.int .u64 (s : Int)) (.int .i64 (v : Int))).run Tryd.prog w = .ok () { w with heap := w.heap.setIfInBounds b (.map (es.push { key := .int .u64 (s : Int), val := .int .i64 (v : Int), born := c }) (c + 1)) } := by
      simp [Instr.mapUpdate, run_underlying und_map, Go.MapKept.run_getObj_map hb, hck, Go.MapKept.run_findKey und_uint f1, Go.MapKept.run_setObj_map _ hb, Result.andThen]
    simp only [Sem.run_bind, hr, Result.andThen]
    refine hk _ _ (set_chg hb) ⟨_, _, (heap_set hb).1, fun x hx => ?_⟩
    simp only [Array.toList_push, List.mem_append, List.mem_singleton] at hx
    rcases hx with hx | rfl
    · exact hes x hx
    · exact ⟨s, v, rfl, rfl, hg⟩
  · have hj : es[j]? = some e := by simpa using f2
    have hr : (Instr.mapUpdate T.t_map_uint_int (.map (some b)) (.int .u64 (s : Int)) (.int .i64 (v : Int))).run Tryd.prog w = .ok () { w with heap := w.heap.setIfInBounds b (.map (es.modify j fun e => { e with key := .int .u64 (s : Int), val := .int .i64 (v : Int) }) c) } := by
      simp [Instr.mapUpdate, run_underlying und_map, Go.MapKept.run_getObj_map hb, hck, Go.MapKept.run_findKey und_uint f1, hj, f3, run_keyThatStays hkk, Go.MapKept.run_setObj_map _ hb, Result.andThen]
    simp only [Sem.run_bind, hr, Result.andThen]
    refine hk _ _ (set_chg hb) ⟨_, _, (heap_set hb).1, fun x hx => ?_⟩
    obtain ⟨i, hi⟩ := List.getElem?_of_mem hx
    rw [Array.getElem?_toList, Array.getElem?_modify] at hi
    by_cases hij : j = i
    · subst hij
      rw [if_pos rfl, hj] at hi
      simp at hi
      subst hi
      exact ⟨s, v, rfl, rfl, hg⟩
    · rw [if_neg hij] at hi
      exact hes x (by simpa using Array.mem_of_getElem? hi)

theorem RUN_newMemo {t : TypeId} {w : World} {K : Nat → World → Prop} (hk : ∀ b w', b = w.heap.size → Ext w w' → (∀ g, MemoR w' b g) → K b w') : RUN Tryd.prog (.at .mp) (Instr.makeMap t none) w K := by
  unfold RUN
  have hr : (Instr.makeMap t none).run Tryd.prog w = .ok (.map (some w.heap.size)) { w with heap := w.heap.push (.map #[] 0) } := by
    simp [Instr.makeMap, Result.andThen]
  rw [hr]
  refine hk _ _ rfl (ext_push w _) fun g => ⟨#[], 0, by simp, fun x hx => by simp at hx⟩

theorem LD_mp {w : World} {a : Addr} {b : Nat} {K : Nat → Prop} (hc : w.cell? a = some (.map (some b))) (hk : K b) : LD [.mp] a w K :=
  ⟨[.map (some b)], rfl, fun i v hv => by
    match i, hv with
    | 0, hv => simp at hv; subst hv; exact hc, hk⟩
theorem LD_box3m {w : World} {p : Addr} {t : TypeId} {x y z : Sl} {b : Nat} {K : Sl → Sl → Sl → Nat → Prop} (hb : Box w p t [x.v, y.v, z.v, .map (some b)]) (hk : K x y z b) : LD [.sl, .sl, .sl, .mp] p w K :=
  ⟨[x.v, y.v, z.v, .map (some b)], rfl, fun i v hv => by
    match i, hv with
    | 0, hv => simp at hv; subst hv; exact hb.cell rfl
    | 1, hv => simp at hv; subst hv; exact hb.cell rfl
    | 2, hv => simp at hv; subst hv; exact hb.cell rfl
    | 3, hv => simp at hv; subst hv; exact hb.cell rfl, hk⟩
theorem LD_u64 {w : World} {a : Addr} {n : Int} {K : Int → Prop} (hc : w.cell? a = some (.int .u64 n)) (hk : K n) : LD [.int .u64] a w K :=
  ⟨[.int .u64 n], rfl, fun i v hv => by
    match i, hv with
    | 0, hv => simp at hv; subst hv; exact hc, hk⟩

end Go.Proofs.YtaeledhbkdakcaaDoor
end

section
/- GreatestMatching, the program: the size of the greatest matching of a set of nodes. -/
namespace Go.Proofs.YtaeledhbkdakcaaDoor
open Go.GX Go.RowKit
set_option maxRecDepth 100000

/-! ### Sets as numbers -/

theorem wrapU {n : Nat} (h : n < 18446744073709551616) : IntKind.u64.wrap (n : Int) = (n : Int) := by
  rw [IntKind.wrap_u64]; omega
theorem bitsU : IntKind.u64.bits = 64 := rfl
theorem ofIntU {a : Nat} (h : a < 18446744073709551616) : (BitVec.ofInt 64 (a : Int)).toNat = a := by
  rw [BitVec.toNat_ofInt]; omega
theorem shlU {v : Nat} (h : v < 64) : shlI .u64 1 (v : Int) = ((2 ^ v : Nat) : Int) := by
  unfold shlI
  have e : min (v : Int).toNat IntKind.u64.bits = v := by rw [bitsU]; omega
  rw [e, Int.one_mul]
  have e2 : (2 : Int) ^ v = ((2 ^ v : Nat) : Int) := by push_cast; rfl
  rw [e2, wrapU]
  have : 2 ^ v < 2 ^ 64 := Nat.pow_lt_pow_right (by decide) h
  omega
theorem clrU {s v : Nat} (hs : s < 18446744073709551616) (hv : v < 64) : bitAndNot .u64 (s : Int) (shlI .u64 1 (v : Int)) = ((clrN s v : Nat) : Int) := by
  have h2 : 2 ^ v < 18446744073709551616 := by
    have : 2 ^ v < 2 ^ 64 := Nat.pow_lt_pow_right (by decide) hv
    omega
  rw [shlU hv]
  unfold bitAndNot
  rw [bitsU, BitVec.toNat_and, ofIntU hs, BitVec.toNat_not, ofIntU h2]
  unfold clrN
  rw [wrapU]
  have := Nat.and_le_left (n := s) (m := 2 ^ 64 - 1 - 2 ^ v)
  omega
theorem clrN_bit {s v : Nat} (hs : s < 18446744073709551616) (hv : v < 64) (u : Nat) : (clrN s v).testBit u = (s.testBit u && decide (u ≠ v)) := by
  unfold clrN
  have h2 : 2 ^ v < 2 ^ 64 := Nat.pow_lt_pow_right (by decide) hv
  rw [Nat.testBit_and, show 2 ^ 64 - 1 - 2 ^ v = 2 ^ 64 - (2 ^ v + 1) by omega, Nat.testBit_two_pow_sub_succ h2, Nat.testBit_two_pow]
  by_cases hu : u < 64
  · rw [decide_eq_true hu, Bool.true_and]
    by_cases e : v = u
    · subst e; simp
    · have : u ≠ v := fun h => e h.symm
      simp [e, this]
  · have : s.testBit u = false := Nat.testBit_lt_two_pow (Nat.lt_of_lt_of_le (show s < 2 ^ 64 from hs) (Nat.pow_le_pow_right (by decide) (by omega)))
    rw [this]; simp
theorem clrN_le (s v : Nat) : clrN s v ≤ s := Nat.and_le_left
theorem clrN_lt {s v : Nat} (hs : s < 18446744073709551616) (hv : v < 64) (hb : s.testBit v = true) : clrN s v < s := by
  have h1 := clrN_le s v
  rcases Nat.lt_or_ge (clrN s v) s with h | h
  · exact h
  · have e : clrN s v = s := by omega
    have := clrN_bit hs hv v
    rw [e, hb] at this
    simp at this
theorem clrN_set {s v : Nat} (hs : s < 18446744073709551616) (hv : v < 64) : setF (clrN s v) = outN (setF s) v := by
  funext u
  exact clrN_bit hs hv u
theorem bitU {s v : Nat} (hs : s < 18446744073709551616) (hv : v < 64) : bitAnd .u64 (shrI .u64 (s : Int) (v : Int)) 1 = if s.testBit v then 1 else 0 := by
  have e1 : shrI .u64 (s : Int) (v : Int) = ((s >>> v : Nat) : Int) := by
    unfold shrI
    have e : min (v : Int).toNat IntKind.u64.bits = v := by rw [bitsU]; omega
    rw [e, show (2 : Int) ^ v = ((2 ^ v : Nat) : Int) by push_cast; rfl, Nat.shiftRight_eq_div_pow]
    rw [Int.fdiv_eq_ediv_of_nonneg _ (Int.natCast_nonneg _)]
    rfl
  have h3 : s >>> v < 18446744073709551616 := by
    rw [Nat.shiftRight_eq_div_pow]
    exact Nat.lt_of_le_of_lt (Nat.div_le_self _ _) hs
  rw [e1]
  unfold bitAnd
  rw [bitsU, BitVec.toNat_and, ofIntU h3, show (1 : Int) = ((1 : Nat) : Int) from rfl, ofIntU (by decide)]
  unfold Nat.testBit
  rw [Nat.and_comm]
  have : 1 &&& s >>> v = 0 ∨ 1 &&& s >>> v = 1 := by
    have := Nat.and_le_left (n := 1) (m := s >>> v)
    omega
  rcases this with h | h <;> rw [h] <;> rfl
theorem setF_big {s k u : Nat} (hs : s < 2 ^ k) (hu : k ≤ u) : setF s u = false := Nat.testBit_lt_two_pow (Nat.lt_of_lt_of_le hs (Nat.pow_le_pow_right (by decide) hu))

/-! ### Sizes -/

theorem optV_le {E : Ends} {k : Nat} : ∀ j (fr : Nat → Bool), optV E k j fr ≤ j
  | 0, _ => Nat.le_refl _
  | j + 1, fr => by
    show (if _ then foldP _ _ _ _ _ else _) ≤ _
    split
    · have : ∀ n, foldP (rowG E (k - (j + 1))) ((0 : Int), (0 : Int)) (fun best _ e => if mayE (k - (j + 1)) fr e then max best (1 + optV E k j (outN fr e.1.toNat)) else best) (optV E k j fr) n ≤ j + 1 := by
        intro n
        induction n with
        | zero => show optV E k j fr ≤ _; have := optV_le (E := E) (k := k) j fr; omega
        | succ n ih =>
          show (if _ then max _ (1 + _) else _) ≤ _
          split
          · have := optV_le (E := E) (k := k) j (outN fr ((rowG E (k - (j + 1))).getD n (0, 0)).1.toNat)
            exact Nat.max_le.2 ⟨ih, by omega⟩
          · exact ih
      exact this _
    · have := optV_le (E := E) (k := k) j fr; omega

/-- The greatest size for a set. -/
def sizeG (E : Ends) (s : Nat) : Nat := optV E E.length E.length (setF s)
theorem sizeG_zero (E : Ends) : sizeG E 0 = 0 := by
  unfold sizeG
  rw [optV_skip (i := 0) E.length (Nat.le_refl _) (Nat.zero_le _) fun u _ _ => by unfold setF; exact Nat.zero_testBit u]
  rfl
theorem sizeG_le (E : Ends) (s : Nat) : sizeG E s ≤ E.length := optV_le _ _
/-- The sizes by the first node of the set. -/
theorem sizeG_low {E : Ends} {s v : Nat} (hv : v < E.length) (h : ∀ i, i < v → s.testBit i = false) : sizeG E s = optV E E.length (E.length - v) (setF s) :=
  optV_skip _ (Nat.le_refl _) (by omega) fun u _ h2 => h u (by omega)
theorem sizeG_rest {E : Ends} {s q v : Nat} (hv : v < E.length) (h : ∀ i, i ≤ v → q.testBit i = false) (he : ∀ i, v < i → q.testBit i = s.testBit i) : sizeG E q = optV E E.length (E.length - (v + 1)) (setF s) := by
  unfold sizeG
  rw [optV_skip (fr := setF q) (i := E.length - (v + 1)) _ (Nat.le_refl _) (by omega) fun u _ h2 => h u (by omega)]
  exact optV_congr _ (by omega) fun u hu => he u (by omega)

/-! ### The walk -/

theorem size_ok {n : Net} (hg : Good n) (h14 : n.ends.length ≤ 14) {a b c : Sl} {mb : Nat} : ∀ (s : Nat), s < 2 ^ n.ends.length → ∀ {w : World}, GTB w mb → NetB w mb a b c n → MemoR w mb (fun s v => v = sizeG n.ends s) →
    Calls Tryd.prog F.i_matcher_size #[.agg #[a.v, b.v, c.v, .map (some mb)], .int .u64 (s : Int)] w (Ret [.at (.int .i64)] fun (x : Int) w' => x = (sizeG n.ends s : Nat) ∧ Chg w w' (fun q => q = mb) ∧ MemoR w' mb (fun s v => v = sizeG n.ends s)) := by
  intro s
  induction s using Nat.strongRecOn with
  | ind s ih =>
  intro hs w g hN hM
  have hk1 := hg.size.1
  have hsz : s < 18446744073709551616 := Nat.lt_of_lt_of_le hs (Nat.le_trans (Nat.pow_le_pow_right (by decide) h14) (by decide))
  refine C_i_matcher_size ?_
  unfold V_i_matcher_size
  refine NEW_intro fun p w1 hp _ hE1 hb1 => ?_
  have hpm : p.block ≠ mb := by have := hM.lt; omega
  have g1 := g.chg (.of_ext hE1)
  replace hN := hN.ext hE1
  replace hM := hM.ext hE1
  refine cond_eq (fun h0 => ?_) (fun h0 => ?_)
  · have : s = 0 := by omega
    subst this
    exact ⟨by rw [sizeG_zero]; rfl, .of_ext hE1, hM⟩
  have hs0 : s ≠ 0 := by omega
  refine LD_mp (hb1.cell (i := 3) rfl) ?_
  refine RUNR_memo hM s (fun v hv => ?_) ?_
  · refine cond_t rfl ⟨by rw [hv], .of_ext hE1, hM⟩
  refine cond_f rfl ?_
  refine call (tz_ok g1 hsz) ?_
  rintro _ _ ⟨rfl, rfl⟩
  obtain ⟨hbit, hlow⟩ := ctzN_spec hs0 hsz
  generalize ctzN s = v at hbit hlow
  have hvk : v < n.ends.length := by
    rcases Nat.lt_or_ge v n.ends.length with h | h
    · exact h
    · have := setF_big hs h; unfold setF at this; rw [hbit] at this; cases this
  have hv64 : v < 64 := by omega
  refine ⟨by omega, LD_box3m hb1 ?_⟩
  rw [clrU hsz hv64]
  have hrl := clrN_lt hsz hv64 hbit
  have hrz : clrN s v < 18446744073709551616 := by omega
  have hrk : clrN s v < 2 ^ n.ends.length := by omega
  have hrb := clrN_bit hsz hv64
  refine call (ih _ hrl hrk g1 hN hM) ?_
  rintro _ w4 ⟨rfl, hC4, hM4⟩
  have hb4 := hb1.chg hC4 hpm
  have hN4 := hN.chg hC4
  refine LD_bs0 hb4 ?_
  refine hN4.e.ixL hvk fun q r hr hc => LD_sl hc ?_
  rw [hr.len]
  have hlen := hg.deg hvk
  obtain ⟨j, hj⟩ : ∃ j, n.ends.length = j + 1 + v := ⟨n.ends.length - v - 1, by omega⟩
  have ej : n.ends.length - (v + 1) = j := by omega
  have evj : n.ends.length - (j + 1) = v := by omega
  have hrest : sizeG n.ends (clrN s v) = optV n.ends n.ends.length j (setF s) := by
    rw [sizeG_rest (s := s) (q := clrN s v) hvk (fun i hi => by
      rw [hrb]
      by_cases e : i = v
      · subst e; simp
      · rw [hlow i (by omega)]; rfl) (fun i hi => by rw [hrb, decide_eq_true (by omega), Bool.and_true]), ej]
  have hfull : sizeG n.ends s = foldP n.ends[v] ((0 : Int), (0 : Int)) (fun best _ e => if mayE v (setF s) e then max best (1 + optV n.ends n.ends.length j (outN (setF s) e.1.toNat)) else best) (sizeG n.ends (clrN s v)) n.ends[v].length := by
    rw [sizeG_low hvk hlow, hrest, show n.ends.length - v = j + 1 by omega, optV_step (by rw [evj]; exact hbit), evj, rowG_get hvk]
  have hbnd : ∀ i, foldP n.ends[v] ((0 : Int), (0 : Int)) (fun best _ e => if mayE v (setF s) e then max best (1 + optV n.ends n.ends.length j (outN (setF s) e.1.toNat)) else best) (sizeG n.ends (clrN s v)) i ≤ 1000 := by
    intro i
    induction i with
    | zero => show sizeG _ _ ≤ _; have := sizeG_le n.ends (clrN s v); omega
    | succ i ihi =>
      show (if _ then max _ (1 + _) else _) ≤ _
      split
      · have := optV_le (E := n.ends) (k := n.ends.length) j (outN (setF s) (n.ends[v].getD i (0, 0)).1.toNat)
        exact Nat.max_le.2 ⟨ihi, by omega⟩
      · exact ihi
  generalize hG : (fun (best : Nat) (_ : Nat) (e : Int × Int) => if mayE v (setF s) e then max best (1 + optV n.ends n.ends.length j (outN (setF s) e.1.toNat)) else best) = G at hfull hbnd
  refine ⟨IN2 n.ends[v].length (fun i (x : Int) w' => Chg w4 w' (fun q => q = mb) ∧ MemoR w' mb (fun s v => v = sizeG n.ends s) ∧ x = (foldP n.ends[v] ((0 : Int), (0 : Int)) G (sizeG n.ends (clrN s v)) i : Nat)), MN2 n.ends[v].length, IN2_zero ⟨Chg.refl _ _, hM4, rfl⟩, ?_⟩
  rintro x9 _ w5 ⟨i, rfl, hi, hC5, hM5, rfl⟩
  intros
  have hC15 := hC4.trans hC5
  have hb5 := hb1.chg hC15 hpm
  have hN5 := hN.chg hC15
  have g5 := g1.chg hC15
  refine cond_dec (fun hlt => ?_) (fun hge => ?_)
  · have hi' : i < n.ends[v].length := by omega
    obtain ⟨x, y, he, hx, hbk⟩ := hg.far hvk hi'
    have hr5 := hr.chg hC5 fun _ h1 _ h2 => h1 h2
    have hgd : n.ends[v].getD i (0, 0) = ((x : Int), (y : Int)) := by rw [List.getD_eq_getElem?_getD, List.getElem?_eq_getElem hi']; exact he
    have hstep : foldP n.ends[v] ((0 : Int), (0 : Int)) G (sizeG n.ends (clrN s v)) (i + 1) = G (foldP n.ends[v] ((0 : Int), (0 : Int)) G (sizeG n.ends (clrN s v)) i) i ((x : Int), (y : Int)) := by
      show G _ i _ = _
      rw [hgd]
    have hb0 := hbnd i
    generalize foldP n.ends[v] ((0 : Int), (0 : Int)) G (sizeG n.ends (clrN s v)) i = best at *
    refine hr5.ixE hi' fun q _ _ hc0 hc1 => ?_
    rw [he] at hc0 hc1
    refine LD_int2 hc0 hc1 ?_
    refine NEW_ST (one2 _ _) rfl fun px w7 hpx hE7 hbx => ?_
    have hC7 := hC5.trans (.of_ext hE7)
    have hM7 := hM5.ext hE7
    have hN7 := hN5.ext hE7
    have g7 := g5.chg (.of_ext hE7)
    have hb7 := hb5.ext hE7
    have hx64 : x < 64 := by omega
    refine LD_bi0 hbx ⟨by omega, ?_⟩
    rw [bitU hrz hx64]
    have hbx' : mayE v (setF s) ((x : Int), (y : Int)) = (clrN s v).testBit x := by
      unfold mayE setF
      simp only [Int.toNat_natCast]
      rw [hrb]
      by_cases e : v < x
      · rw [decide_eq_true e, decide_eq_true (show x ≠ v by omega), Bool.true_and, Bool.and_true]
      · rw [decide_eq_false e, Bool.false_and]
        by_cases e2 : x = v
        · subst e2; simp
        · rw [hlow x (by omega)]; rfl
    by_cases hbt : (clrN s v).testBit x = true
    · rw [if_pos hbt]
      refine cond_t rfl ?_
      intro w8 hE8 _
      have hC8 := hC7.trans (.of_ext hE8)
      have hM8 := hM7.ext hE8
      have hN8 := hN7.ext hE8
      have g8 := g7.chg (.of_ext hE8)
      have hb8 := hb7.ext hE8
      have hbx8 := hbx.ext hE8
      have hl2 := clrN_lt hrz hx64 hbt
      have hsub : sizeG n.ends (clrN (clrN s v) x) = optV n.ends n.ends.length j (outN (setF s) x) := by
        have hxv : v < x := by
          rw [hbt] at hbx'
          unfold mayE at hbx'
          simp at hbx'
          exact hbx'.1
        unfold sizeG
        rw [clrN_set hrz hx64, optV_skip (fr := outN (setF (clrN s v)) x) (i := j) _ (Nat.le_refl _) (by omega) fun u _ h2 => ?_]
        · refine optV_congr _ (by omega) fun u hu => ?_
          unfold outN setF
          rw [hrb, decide_eq_true (show u ≠ v by omega), Bool.and_true]
        · unfold outN setF
          rw [hrb]
          by_cases e2 : u = v
          · subst e2; simp
          · rw [hlow u (by omega)]; rfl
      have hok := sizeG_le n.ends (clrN (clrN s v) x)
      have hmax : ∀ {w9 : World}, Chg w8 w9 (fun q => q = mb) → MemoR w9 mb (fun s v => v = sizeG n.ends s) → RUN Tryd.prog (.at (.int .i64)) (bsem .max #[T.t_int, T.t_int] T.t_int #[.int .i64 ((best : Nat) : Int), .int .i64 (IntKind.i64.wrap (1 + ((sizeG n.ends (clrN (clrN s v) x) : Nat) : Int)))]) w9 fun (x58 : Int) w10 =>
          IN2 n.ends[v].length (fun i (x : Int) w' => Chg w4 w' (fun q => q = mb) ∧ MemoR w' mb (fun s v => v = sizeG n.ends s) ∧ x = (foldP n.ends[v] ((0 : Int), (0 : Int)) G (sizeG n.ends (clrN s v)) i : Nat)) x58 (IntKind.i64.wrap ((i : Int) + 1)) w10 ∧ MN2 n.ends[v].length x58 (IntKind.i64.wrap ((i : Int) + 1)) w10 < MN2 n.ends[v].length ((best : Nat) : Int) (i : Int) w5 := by
        intro w9 hC9 hM9
        refine RUN_max ?_
        refine IN2_next (by omega) hi' ⟨hC8.trans hC9, hM9, ?_⟩
        rw [hstep, ← hG]
        simp only [hbx', hbt, if_true, Int.toNat_natCast]
        rw [← hsub, wrap_of (by omega) (by omega)]
        by_cases hlt2 : ((best : Nat) : Int) < 1 + ((sizeG n.ends (clrN (clrN s v) x) : Nat) : Int)
        · rw [if_pos hlt2]; omega
        · rw [if_neg hlt2]; omega
      refine ⟨LD_box3m hb8 (LD_bi0 hbx8 ⟨by omega, ?_⟩), LD_bi0 hbx8 ⟨by omega, LD_box3m hb8 ?_⟩⟩ <;> rw [clrU hrz hx64]
      · refine call (ih _ (by omega) (by omega) g8 hN8 hM8) ?_
        rintro _ w9 ⟨rfl, hC9, hM9⟩
        exact hmax hC9 hM9
      · refine call (ih _ (by omega) (by omega) g8 hN8 hM8) ?_
        rintro _ w9 ⟨rfl, hC9, hM9⟩
        exact hmax hC9 hM9
    · rw [if_neg hbt]
      refine cond_f rfl ?_
      refine IN2_next (by omega) hi' ⟨hC7, hM7, ?_⟩
      rw [hstep, ← hG]
      simp only [hbx', hbt]
      rfl
  · have : i = n.ends[v].length := by omega
    subst this
    refine LD_mp (hb5.cell (i := 3) rfl) ?_
    refine RUN_memo hM5 hfull.symm fun x w13 hC13 hM13 => ?_
    exact ⟨by rw [hfull], ((Chg.of_ext hE1).trans hC15).trans hC13, hM13⟩

end Go.Proofs.YtaeledhbkdakcaaDoor
end

section
/- GreatestMatching, the program: the function value that is handed to slices.IndexFunc. -/
namespace Go.Proofs.YtaeledhbkdakcaaDoor
open Go.GX Go.RowKit
set_option maxRecDepth 100000

/-- slices.IndexFunc with a function value that keeps something. -/
theorem indexFuncM_ok {w : World} {s : Sl} {l : List (Int × Int)} {J : World → Prop} (hJ : J w) (hR : ∀ w', J w' → R w' s l) {f : Value} {p : Int × Int → Bool}
    (hf : ∀ (i : Nat) (hi : i < l.length) (w' : World), J w' → CALLV Tryd.prog f #[.agg #[.int .i64 l[i].1, .int .i64 l[i].2]] w' (Ret [.at .bool] fun (b : Bool) w'' => b = p l[i] ∧ J w'')) :
    Calls Tryd.prog F.slices_IndexFunc_sl_i_End_i_End #[s.v, f] w (Ret [.at (.int .i64)] fun (i : Int) w' => Found l p i ∧ J w') := by
  refine C_slices_IndexFunc_sl_i_End_i_End ?_
  unfold V_slices_IndexFunc_sl_i_End_i_End
  have hle := (hR w hJ).le
  rw [(hR w hJ).len]
  refine ⟨IN l.length fun i w' => J w' ∧ ∀ x ∈ l.take i, p x = false, MN l.length, IN_zero ⟨hJ, by simp⟩, ?_⟩
  rintro _ w1 ⟨i, rfl, hi', hJ1, ha⟩
  intros
  refine cond_dec (fun hlt => ?_) (fun hge => ⟨?_, hJ1⟩)
  · have hlt' : i < l.length := by omega
    refine (hR w1 hJ1).ixE hlt' fun q _ _ hc0 hc1 => LD_int2 hc0 hc1 ?_
    refine callv (hf i hlt' w1 hJ1) ?_
    rintro b w2 ⟨rfl, hJ2⟩
    exact cond_b (fun ht => ⟨found_at hlt' ha ht, hJ2⟩) (fun hf => IN_next hle hlt' ⟨hJ2, none_succ hlt' ha hf⟩)
  · have : i = l.length := by omega
    subst this
    exact found_no (by simpa using ha)

theorem gmHit_ok {n : Net} (hg : Good n) (h14 : n.ends.length ≤ 14) {a b c : Sl} {mb set : Nat} {want : Int} {x y : Nat} (hx : x < n.ends.length) (hset : set < 2 ^ n.ends.length) {p6 p4 p9 : Addr} {w : World} (g : GTB w mb) (hN : NetB w mb a b c n) (hM : MemoR w mb (fun s v => v = sizeG n.ends s))
    (h6 : Box w p6 T.t_uint [.int .u64 (set : Int)]) (h4 : Box w p4 T.t_i_matcher [a.v, b.v, c.v, .map (some mb)]) (h9 : Box w p9 T.t_int [.int .i64 want]) (h9m : p9.block ≠ mb) :
    Calls Tryd.prog F.i_GreatestMatching_1 #[.agg #[.int .i64 (x : Int), .int .i64 (y : Int)], .pointer (some p6), .pointer (some p4), .pointer (some p9)] w (Ret [.at .bool] fun (r : Bool) w' => r = (set.testBit x && decide (1 + ((sizeG n.ends (clrN set x) : Nat) : Int) = want)) ∧ Chg w w' (fun q => q = mb) ∧ MemoR w' mb (fun s v => v = sizeG n.ends s)) := by
  have hsz : set < 18446744073709551616 := Nat.lt_of_lt_of_le hset (Nat.le_trans (Nat.pow_le_pow_right (by decide) h14) (by decide))
  have hx64 : x < 64 := by omega
  refine C_i_GreatestMatching_1 ?_
  unfold V_i_GreatestMatching_1 V_i_GreatestMatching_1_k1
  refine NEW_intro fun pe w1 hpe _ hE1 hbe => ?_
  intro w2 hE2 _
  have hE := hE1.trans hE2
  have hbe2 := hbe.ext hE2
  have hem : pe.block ≠ mb := by have := hM.lt; omega
  have g2 := g.chg (.of_ext hE)
  have hN2 := hN.ext hE
  have hM2 := hM.ext hE
  have h62 := h6.ext hE
  have h42 := h4.ext hE
  have h92 := h9.ext hE
  have hc6 : w2.cell? p6 = some (.int .u64 (set : Int)) := h62.cell (i := 0) rfl
  have hc9 : w2.cell? p9 = some (.int .i64 want) := h92.cell (i := 0) rfl
  have hce : w2.cell? (pe.add 0) = some (.int .i64 (x : Int)) := hbe2.cell (i := 0) rfl
  by_cases hb : set.testBit x = true
  · have hl := clrN_lt hsz hx64 hb
    have hsl := sizeG_le n.ends (clrN set x)
    have hcall := size_ok hg h14 (clrN set x) (by omega) g2 hN2 hM2
    rw [← clrU hsz hx64] at hcall
    have hfin : ∀ w', Chg w2 w' (fun q => q = mb) → MemoR w' mb (fun s v => v = sizeG n.ends s) → (((IntKind.i64.wrap (1 + ((sizeG n.ends (clrN set x) : Nat) : Int)) : Int) == want) = (set.testBit x && decide (1 + ((sizeG n.ends (clrN set x) : Nat) : Int) = want)) ∧ Chg w w' (fun q => q = mb) ∧ MemoR w' mb (fun s v => v = sizeG n.ends s)) := by
      intro w' hC hM'
      refine ⟨?_, (Chg.of_ext hE).trans hC, hM'⟩
      rw [hb, Bool.true_and, wrap_of (by omega) (by omega), Bool.eq_iff_iff]
      simp
    have hc9' : ∀ {w'}, Chg w2 w' (fun q => q = mb) → w'.cell? p9 = some (.int .i64 want) := fun hC => (h92.chg hC h9m).cell (i := 0) rfl
    have hbit : (bitAnd .u64 (shrI .u64 (set : Int) (x : Int)) 1 == 1) = true := by rw [bitU hsz hx64, hb]; rfl
    repeat' (first
      | exact hfin _ ‹_› ‹_›
      | (refine LD_u64 hc6 ?_)
      | (refine LD_int hce ?_)
      | (refine LD_int hc9 ?_)
      | (refine LD_box3m h42 ?_)
      | (refine ⟨Int.natCast_nonneg _, ?_⟩)
      | (refine cond_t hbit ?_)
      | (refine call hcall ?_; rintro _ w' ⟨rfl, hC, hM'⟩; first | exact hfin _ hC hM' | (refine LD_int (hc9' hC) ?_; exact hfin _ hC hM'))
      | (refine And.intro ?_ ?_))
  · have hb' : set.testBit x = false := by simpa using hb
    have hbit : (bitAnd .u64 (shrI .u64 (set : Int) (x : Int)) 1 == 1) = false := by rw [bitU hsz hx64, hb']; rfl
    have hfin : false = (set.testBit x && decide (1 + ((sizeG n.ends (clrN set x) : Nat) : Int) = want)) ∧ Chg w w2 (fun q => q = mb) ∧ MemoR w2 mb (fun s v => v = sizeG n.ends s) := ⟨by rw [hb']; rfl, .of_ext hE, hM2⟩
    repeat' (first
      | exact hfin
      | (refine LD_u64 hc6 ?_)
      | (refine LD_int hce ?_)
      | (refine LD_int hc9 ?_)
      | (refine LD_box3m h42 ?_)
      | (refine ⟨Int.natCast_nonneg _, ?_⟩)
      | (refine cond_f hbit ?_)
      | (refine And.intro ?_ ?_))

end Go.Proofs.YtaeledhbkdakcaaDoor
end
