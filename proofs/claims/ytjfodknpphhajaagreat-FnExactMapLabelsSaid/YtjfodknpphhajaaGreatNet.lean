/- Networks: how they lie in memory, and the contracts of the functions that copy, weigh and compare them. -/
import Derived.Test.YtjfodknpphhajaaGreatLeaf
namespace Go.Proofs.YtjfodknpphhajaaGreat
open Go.GX Go.RowKit
set_option maxRecDepth 100000

structure Net where
  ends : List (List (Int × Int))
  ids : List Int
  inputs : List Int

/-- Three slices read as a network. -/
def RNet (w : World) (a b c : Sl) (n : Net) : Prop := R w a n.ends ∧ R w b n.ids ∧ R w c n.inputs

theorem RNet.ext {w w' : World} {a b c : Sl} {n : Net} (h : RNet w a b c n) (hE : Ext w w') : RNet w' a b c n := ⟨h.1.ext hE, h.2.1.ext hE, h.2.2.ext hE⟩

theorem slt_int : SlT Tryz.prog T.t_sl_int T.t_int 1 8 (.int .i64 0) := ⟨by kernel_rfl, by kernel_rfl, rfl, by decide⟩
theorem slt_end : SlT Tryz.prog T.t_sl_i_End T.t_i_End 2 16 (.agg #[.int .i64 0, .int .i64 0]) := ⟨by kernel_rfl, by kernel_rfl, rfl, by decide⟩
theorem slt_ends : SlT Tryz.prog T.t_sl_sl_i_End T.t_sl_i_End 1 24 (.slice none 0 0) := ⟨by kernel_rfl, by kernel_rfl, rfl, by decide⟩

theorem flat_ok {w : World} {s : Sl} {l : List Int} (h : R w s l) : ∀ x ∈ l, I64 x := fun x hx => by
  obtain ⟨i, hi, rfl⟩ := List.mem_iff_getElem.1 hx
  obtain ⟨_, _, _, _, ⟨_, h1⟩, _⟩ := h.2.2 i l[i] (by simp [hi])
  exact h1

theorem toIntS_ok {w : World} {a : Sl} {l : List Int} (h : R w a l) (hb : l.length ≤ 1048576) :
    Calls Tryz.prog F.l_toIntS #[a.v] w (Ret [.at .sl] fun (s : Sl) w' => Ext w w' ∧ OwnL w' w.heap.size T.t_int s l) := by
  refine C_l_toIntS ?_
  unfold V_l_toIntS
  rw [h.len]
  refine RUN_make (α := Int) slt_int (d := 0) rfl (by omega) (by unfold maxLen; omega) fun s w1 hE1 hO1 => ?_
  refine ⟨IN l.length fun i w' => Ext w w' ∧ OwnL w' w.heap.size T.t_int s (l.take i ++ List.replicate (l.length - i) 0), MN l.length, IN_zero ⟨hE1, by simpa using hO1⟩, ?_⟩
  rintro x w2 ⟨i, rfl, hi, hE, hO⟩
  intros
  refine cond_dec (fun hlt => ?_) (fun hge => ?_)
  · have hlt' : i < l.length := by omega
    refine (h.ext hE).ixI hlt' fun p h64 hc => LD_int hc ?_
    refine IX_own hO (by rw [fill_len hi]; exact hlt') rfl fun p hp => ?_
    refine ST_own hO (by rw [fill_len hi]; exact hlt') hp l[i] rfl fun w3 hO3 hs => ?_
    refine IN_next (by omega) hlt' ⟨hs.ext0 hE (fun k hk => (hO.blk k hk).1), ?_⟩
    rw [← fill_step hlt']; exact hO3
  · have : i = l.length := by omega
    subst this
    exact ⟨hE, by simpa using hO⟩

theorem eqIntS_ok {w : World} {a b : Sl} {l m : List Int} (ha : R w a l) (hb : R w b m) :
    Calls Tryz.prog F.l_eqIntS #[a.v, b.v] w (Ret [.at .bool] fun (x : Bool) w' => x = decide (l = m) ∧ Ext w w') := by
  refine C_l_eqIntS ?_
  unfold V_l_eqIntS
  rw [ha.len, hb.len]
  refine cond_ne (fun hne => ⟨?_, Ext.refl _⟩) (fun he => ?_)
  · rw [decide_eq_false]; intro h; subst h; exact hne rfl
  · have hl : l.length = m.length := by omega
    refine ⟨IN l.length fun i w' => Ext w w' ∧ l.take i = m.take i, MN l.length, IN_zero ⟨Ext.refl _, by simp⟩, ?_⟩
    rintro x w1 ⟨i, rfl, hi, hE, ht⟩
    intros
    refine cond_dec (fun hlt => ?_) (fun hge => ⟨?_, hE⟩)
    · have h1 : i < l.length := by omega
      have h2 : i < m.length := by omega
      refine (ha.ext hE).ixI h1 fun p _ hc => LD_int hc ?_
      refine (hb.ext hE).ixI h2 fun p _ hc => LD_int hc ?_
      intro w2 hE2
      refine cond_ne (fun hne => ⟨?_, hE.trans hE2⟩) (fun heq => ?_)
      · rw [decide_eq_false]; intro h; subst h; exact hne rfl
      · exact IN_next ha.le h1 ⟨hE.trans hE2, by rw [List.take_succ_eq_append_getElem h1, List.take_succ_eq_append_getElem h2, ht, heq]⟩
    · have h3 : i = l.length := by omega
      subst h3
      rw [decide_eq_true]
      have h4 : m.take l.length = m := List.take_of_length_le (by omega)
      rw [h4, List.take_length] at ht
      exact ht


/-- A struct that is copied field by field. -/
theorem toEnd_ok (x y : Int) (w : World) : Calls Tryz.prog F.l_toEnd #[.agg #[.int .i64 x, .int .i64 y]] w (Ret [.agg [.int .i64, .int .i64]] fun (a b : Int) w' => a = x ∧ b = y ∧ Ext w w') := by
  refine C_l_toEnd ?_
  unfold V_l_toEnd
  refine NEW_intro fun pa w1 hp1 hs1 hE1 hb1 => ?_
  refine NEW_intro fun px w2 hp2 hs2 hE2 hb2 => ?_
  refine NEW_intro fun po w3 hp3 hs3 hE3 hb3 => ?_
  have ha3 := (hb1.ext hE2).ext hE3
  have hx3 := hb2.ext hE3
  have hE : Ext w w3 := (hE1.trans hE2).trans hE3
  refine LD_bi0 ha3 ?_
  refine ST_box1 hb3 (by simp) rfl fun w4 hz4 hk4 hX4 hb4 => ?_
  have ha4 := ha3.of_block (hk4 _ (by omega))
  have hx4 := hx3.of_block (hk4 _ (by omega))
  refine LD_bi1 ha4 ?_
  refine ST_box1 hb4 (by simp) rfl fun w5 hz5 hk5 hX5 hb5 => ?_
  have hx5 := hx4.of_block (hk5 _ (by omega))
  refine LD_box2 hb5 ?_
  refine ST_all hx5 (one2 _ _) rfl fun w6 hs6 hz6 hb6 => ?_
  refine LD_box2 hb6 ⟨rfl, rfl, ?_⟩
  exact hs6.ext0 (hX5 _ (hX4 _ hE (by omega)) (by omega)) (fun k hk => by cases hk; omega)

theorem flat_okE {w : World} {s : Sl} {l : List (Int × Int)} (h : R w s l) : ∀ x ∈ l, I64 x.1 ∧ I64 x.2 := fun x hx => by
  obtain ⟨i, hi, rfl⟩ := List.mem_iff_getElem.1 hx
  obtain ⟨_, _, _, _, ⟨_, h1⟩, _⟩ := h.2.2 i l[i] (by simp [hi])
  exact h1

theorem toEndS_ok {w : World} {a : Sl} {l : List (Int × Int)} (h : R w a l) (hb : l.length ≤ 1048576) :
    Calls Tryz.prog F.l_toEndS #[a.v] w (Ret [.at .sl] fun (s : Sl) w' => Ext w w' ∧ OwnL w' w.heap.size T.t_i_End s l) := by
  refine C_l_toEndS ?_
  unfold V_l_toEndS
  rw [h.len]
  refine RUN_make (α := Int × Int) slt_end (d := (0, 0)) rfl (by omega) (by unfold maxLen; omega) fun s w1 hE1 hO1 => ?_
  refine ⟨IN l.length fun i w' => Ext w w' ∧ OwnL w' w.heap.size T.t_i_End s (l.take i ++ List.replicate (l.length - i) (0, 0)), MN l.length, IN_zero ⟨hE1, by simpa using hO1⟩, ?_⟩
  rintro x w2 ⟨i, rfl, hi, hE, hO⟩
  intros
  refine cond_dec (fun hlt => ?_) (fun hge => ?_)
  · have hlt' : i < l.length := by omega
    refine (h.ext hE).ixE hlt' fun p _ _ hc0 hc1 => LD_int2 hc0 hc1 ?_
    refine call (toEnd_ok _ _ _) ?_
    rintro _ _ w3 ⟨rfl, rfl, hE3⟩
    have hO' := hO.ext hE3
    refine IX_own hO' (by rw [fill_len hi]; exact hlt') rfl fun p hp => ?_
    refine ST_own hO' (by rw [fill_len hi]; exact hlt') hp l[i] rfl fun w4 hO4 hs => ?_
    refine IN_next (by omega) hlt' ⟨hs.ext0 (hE.trans hE3) (fun k hk => (hO'.blk k hk).1), ?_⟩
    rw [← fill_step hlt']; exact hO4
  · have : i = l.length := by omega
    subst this
    exact ⟨hE, by simpa using hO⟩

/-- The cells of an own slice of slices, and what each reads as. -/
theorem toEndSS_own {w : World} {a : Sl} {l : List (List (Int × Int))} (h : R w a l) (hb : l.length ≤ 1048576) (hbb : ∀ r ∈ l, r.length ≤ 1048576) :
    Calls Tryz.prog F.l_toEndSS #[a.v] w (Ret [.at .sl] fun (s : Sl) w' => Ext w w' ∧ Own2 w' w.heap.size T.t_i_End T.t_sl_i_End s l) := by
  refine C_l_toEndSS ?_
  unfold V_l_toEndSS
  rw [h.len]
  refine RUN_make (α := Sl) slt_ends (d := ⟨none, 0, 0⟩) rfl (by omega) (by unfold maxLen; omega) fun s w1 hE1 hO1 => ?_
  refine ⟨IN l.length fun i w' => Ext w w' ∧ ∃ ss : List Sl, ss.length = l.length ∧ OwnL w' w.heap.size T.t_sl_i_End s ss ∧ ∀ (k : Nat) (q : Sl) (m : List (Int × Int)), k < i → ss[k]? = some q → l[k]? = some m → OwnL w' w.heap.size T.t_i_End q m, MN l.length,
    IN_zero ⟨hE1, List.replicate l.length ⟨none, 0, 0⟩, by simp, hO1, fun k _ _ h3 => by omega⟩, ?_⟩
  rintro x w2 ⟨i, rfl, hi, hE, ss, hss, hO, hR⟩
  intros
  refine cond_dec (fun hlt => ?_) (fun hge => ?_)
  · have hlt' : i < l.length := by omega
    refine (h.ext hE).ixL hlt' fun p s' hs' hc => LD_sl hc ?_
    have hz := hE.size_le
    refine call (toEndS_ok hs'.any (hbb _ (List.getElem_mem _))) ?_
    rintro s3 w3 ⟨hE3, hO3⟩
    have hO' := hO.ext hE3
    refine IX_own hO' (by omega) rfl fun p hp => ?_
    refine ST_own hO' (by omega) hp s3 rfl fun w4 hO4 hs => ?_
    refine IN_next (by omega) hlt' ⟨hs.ext0 (hE.trans hE3) (fun k hk => (hO'.blk k hk).1), ss.set i s3, by simp [hss], hO4, fun k q m h1 h2 h3 => ?_⟩
    by_cases hk : k = i
    · subst hk
      rw [List.getElem?_set_self (by omega)] at h2
      rw [List.getElem?_eq_getElem hlt'] at h3
      cases h2
      cases h3
      exact (hO3.low hz).step hO' (by decide) hs
    · rw [List.getElem?_set_ne (Ne.symm hk)] at h2
      exact ((hR k q m (by omega) h2 h3).ext hE3).step hO' (by decide) hs
  · have : i = l.length := by omega
    subst this
    refine ⟨hE, ss, hO, hss, fun k q m h2 h3 => hR k q m (List.getElem?_eq_some_iff.1 h3).1 h2 h3⟩

theorem flat_okEE {w : World} {s : Sl} {l : List (List (Int × Int))} (h : R w s l) : ∀ r ∈ l, ∀ x ∈ r, Flat.ok x := fun r hr x hx => by
  obtain ⟨i, hi, rfl⟩ := List.mem_iff_getElem.1 hr
  obtain ⟨_, _, _, _, ⟨s', _, h1⟩, _⟩ := h.2.2 i l[i] (by simp [hi])
  exact flat_okE h1 x hx

/-- A network that fits the law's bound. -/
def Small (n : Net) : Prop := n.ends.length ≤ 1048576 ∧ (∀ r ∈ n.ends, r.length ≤ 1048576) ∧ n.ids.length ≤ 1048576 ∧ n.inputs.length ≤ 1048576

/-- A network in the call's own memory. -/
structure OwnNet (w : World) (base : Nat) (x y z : Sl) (n : Net) : Prop where
  ends : Own2 w base T.t_i_End T.t_sl_i_End x n.ends
  ids : OwnL w base T.t_int y n.ids
  inputs : OwnL w base T.t_int z n.inputs

theorem OwnNet.ext {w w' : World} {base : Nat} {x y z : Sl} {n : Net} (h : OwnNet w base x y z n) (hE : Ext w w') : OwnNet w' base x y z n := ⟨h.ends.ext hE, h.ids.ext hE, h.inputs.ext hE⟩
theorem OwnNet.keep {w w' : World} {base : Nat} {x y z : Sl} {n : Net} (h : OwnNet w base x y z n) (hk : ∀ k, base ≤ k → k < w.heap.size → w'.heap[k]? = w.heap[k]?) : OwnNet w' base x y z n :=
  ⟨h.ends.keep hk, h.ids.keep fun k hb => hk k (h.ids.blk k hb).1 (h.ids.blk k hb).2, h.inputs.keep fun k hb => hk k (h.inputs.blk k hb).1 (h.inputs.blk k hb).2⟩
theorem OwnNet.low {w : World} {base b : Nat} {x y z : Sl} {n : Net} (h : OwnNet w base x y z n) (hb : b ≤ base) : OwnNet w b x y z n := ⟨h.ends.low hb, h.ids.low hb, h.inputs.low hb⟩
theorem OwnNet.net {w w0 : World} {base : Nat} {x y z a b c : Sl} {n : Net} (h : OwnNet w base x y z n) (h0 : RNet w0 a b c n) : RNet w x y z n :=
  ⟨h.ends.rep (flat_okEE h0.1), (h.ids.rep (flat_ok h0.2.1)).any, (h.inputs.rep (flat_ok h0.2.2)).any⟩

theorem toNetwork_own {w : World} {a b c : Sl} {n : Net} (h : RNet w a b c n) (hs : Small n) :
    Calls Tryz.prog F.l_toNetwork #[.agg #[a.v, b.v, c.v]] w (Ret [.agg [.sl, .sl, .sl]] fun (x y z : Sl) w' => Ext w w' ∧ OwnNet w' w.heap.size x y z n) := by
  refine C_l_toNetwork ?_
  unfold V_l_toNetwork
  refine NEW_intro fun pa w1 hp1 hs1 hE1 hb1 => ?_
  refine NEW_intro fun px w2 hp2 hs2 hE2 hb2 => ?_
  refine NEW_intro fun po w3 hp3 hs3 hE3 hb3 => ?_
  have ha3 := (hb1.ext hE2).ext hE3
  have hx3 := hb2.ext hE3
  have hE : Ext w w3 := (hE1.trans hE2).trans hE3
  have hlt := hb3.lt
  refine LD_bs0 ha3 ?_
  refine call (toEndSS_own (h.1.ext hE) hs.1 hs.2.1) ?_
  rintro x w4 ⟨hE4, hx⟩
  refine ST_box1 (hb3.ext hE4) (by simp) rfl fun w5 hz5 hk5 hX5 hb5 => ?_
  have hE5 := hX5 _ (hE.trans hE4) (by omega)
  have ha5 := (ha3.ext hE4).of_block (hk5 _ (by omega))
  have hx5 := (hx3.ext hE4).of_block (hk5 _ (by omega))
  have hX : Own2 w5 w3.heap.size T.t_i_End T.t_sl_i_End x n.ends := hx.keep fun b hb _ => hk5 b (by omega)
  refine LD_bs1 ha5 ?_
  have hsz5 : w3.heap.size ≤ w5.heap.size := by have := hE4.size_le; omega
  refine call (toIntS_ok (h.2.1.ext hE5) hs.2.2.1) ?_
  rintro y w6 ⟨hE6, hy⟩
  have hlt5 := hb5.lt
  refine ST_box1 (hb5.ext hE6) (by simp) rfl fun w7 hz7 hk7 hX7 hb7 => ?_
  have hE7 := hX7 _ (hE5.trans hE6) (by omega)
  have ha7 := (ha5.ext hE6).of_block (hk7 _ (by omega))
  have hx7 := (hx5.ext hE6).of_block (hk7 _ (by omega))
  have hX' : Own2 w7 w3.heap.size T.t_i_End T.t_sl_i_End x n.ends := (hX.ext hE6).keep fun b hb _ => hk7 b (by omega)
  have hy' := hy.low hsz5
  have hY : OwnL w7 w3.heap.size T.t_int y n.ids := hy'.keep fun b hb => hk7 b (by have := (hy'.blk b hb).1; omega)
  refine LD_bs2 ha7 ?_
  have hsz7 : w3.heap.size ≤ w7.heap.size := by have := hE6.size_le; omega
  refine call (toIntS_ok (h.2.2.ext hE7) hs.2.2.2) ?_
  rintro z w8 ⟨hE8, hz⟩
  have hlt7 := hb7.lt
  refine ST_box1 (hb7.ext hE8) (by simp) rfl fun w9 hz9 hk9 hX9 hb9 => ?_
  have hE9 := hX9 _ (hE7.trans hE8) (by omega)
  have hx9 := (hx7.ext hE8).of_block (hk9 _ (by omega))
  have hz' := hz.low hsz7
  have hN : OwnNet w9 w3.heap.size x y z n := OwnNet.keep (w := w8) ⟨hX'.ext hE8, hY.ext hE8, hz'⟩ fun b hb _ => hk9 b (by omega)
  refine LD_box3 hb9 ?_
  refine ST_all hx9 (one3 _ _ _) rfl fun w10 hs10 hz10 hb10 => ?_
  have hN' := hN.keep (w' := w10) fun b hb h2 => hs10.block b h2 (by intro he; cases he; omega)
  exact LD_box3 hb10 ⟨hs10.ext0 hE9 (fun k hk => by cases hk; omega), hN'.low hE.size_le⟩

theorem toNetwork_ok {w : World} {a b c : Sl} {n : Net} (h : RNet w a b c n) (hs : Small n) :
    Calls Tryz.prog F.l_toNetwork #[.agg #[a.v, b.v, c.v]] w (Ret [.agg [.sl, .sl, .sl]] fun (x y z : Sl) w' => Ext w w' ∧ RNet w' x y z n) :=
  call (toNetwork_own h hs) fun _ _ _ _ h1 => ⟨h1.1, h1.2.net h⟩

theorem szIntS_ok {w : World} {a : Sl} {l : List Int} (h : R w a l) (left : Int) (h0 : 0 ≤ left) (h1 : left ≤ 1048576) :
    Calls Tryz.prog F.l_szIntS #[a.v, .int .i64 left] w (Ret [.at (.int .i64)] fun (x : Int) w' => (0 ≤ x → x ≤ left ∧ l.length ≤ left) ∧ w = w') := by
  refine C_l_szIntS ?_
  unfold V_l_szIntS
  have := h.le
  rw [h.len, wrap_of (by omega) (by omega)]
  exact cond_dec (fun _ => ⟨by omega, rfl⟩) (fun _ => ⟨by omega, rfl⟩)

theorem szEndS_ok {w : World} {a : Sl} {l : List (Int × Int)} (h : R w a l) (left : Int) (h0 : 0 ≤ left) (h1 : left ≤ 1048576) :
    Calls Tryz.prog F.l_szEndS #[a.v, .int .i64 left] w (Ret [.at (.int .i64)] fun (x : Int) w' => (0 ≤ x → x ≤ left ∧ l.length ≤ left) ∧ w = w') := by
  refine C_l_szEndS ?_
  unfold V_l_szEndS
  have := h.le
  rw [h.len, wrap_of (by omega) (by omega)]
  exact cond_dec (fun _ => ⟨by omega, rfl⟩) (fun _ => ⟨by omega, rfl⟩)

theorem szEndSS_ok {w : World} {a : Sl} {l : List (List (Int × Int))} (h : R w a l) (left : Int) (h0 : 0 ≤ left) (h1 : left ≤ 1048576) :
    Calls Tryz.prog F.l_szEndSS #[a.v, .int .i64 left] w (Ret [.at (.int .i64)] fun (x : Int) w' => (0 ≤ x → x ≤ left ∧ l.length ≤ left ∧ ∀ r ∈ l, r.length ≤ left) ∧ w = w') := by
  refine C_l_szEndSS ?_
  unfold V_l_szEndSS
  have := h.le
  rw [h.len, wrap_of (by omega) (by omega)]
  refine cond_dec (fun _ => ⟨by omega, rfl⟩) (fun hle => ?_)
  refine ⟨fun y x w' => w = w' ∧ 0 ≤ y ∧ y ≤ left ∧ ∃ i : Nat, x = i ∧ i ≤ l.length ∧ ∀ r ∈ l.take i, r.length ≤ left, fun _ x _ => l.length - x.toNat, ⟨rfl, by omega, by omega, 0, rfl, by omega, by simp⟩, ?_⟩
  rintro y x _ ⟨rfl, hy0, hy, i, rfl, hi, hr⟩
  intros
  refine cond_dec (fun hlt => ?_) (fun hge => ⟨fun _ => ⟨hy, by omega, ?_⟩, rfl⟩)
  · have hlt' : i < l.length := by omega
    refine h.ixL hlt' fun p s' hs' hc => LD_sl hc ?_
    refine call (szEndS_ok hs'.any y hy0 (by omega)) ?_
    rintro x _ ⟨hx, rfl⟩
    refine cond_dec (fun _ => ⟨by omega, rfl⟩) (fun hn => ?_)
    have hx' := hx (by omega)
    rw [wrap_of (by omega) (by omega)]
    refine ⟨⟨rfl, by omega, by omega, i + 1, by omega, hlt', fun r hr' => ?_⟩, by simp only []; omega⟩
    rw [List.take_succ_eq_append_getElem hlt'] at hr'
    rcases List.mem_append.1 hr' with h3 | h3
    · exact hr r h3
    · rw [List.mem_singleton.1 h3]; omega
  · have : i = l.length := by omega
    subst this
    simpa using hr

theorem szNetwork_ok {w : World} {a b c : Sl} {n : Net} (h : RNet w a b c n) :
    Calls Tryz.prog F.l_szNetwork #[.agg #[a.v, b.v, c.v], .int .i64 1048576] w (Ret [.at (.int .i64)] fun (x : Int) w' => (0 ≤ x → Small n) ∧ Ext w w') := by
  refine C_l_szNetwork ?_
  unfold V_l_szNetwork
  refine NEW_intro fun pa w1 hp1 hs1 hE1 hb1 => ?_
  refine LD_bs0 hb1 ?_
  refine call (szEndSS_ok (h.1.ext hE1) _ (by omega) (by omega)) ?_
  rintro x1 _ ⟨h1, rfl⟩
  refine cond_dec (fun _ => ⟨by omega, hE1⟩) (fun hn1 => ?_)
  have k1 := h1 (by omega)
  refine LD_bs1 hb1 ?_
  refine call (szIntS_ok (h.2.1.ext hE1) _ (by omega) (by omega)) ?_
  rintro x2 _ ⟨h2, rfl⟩
  refine cond_dec (fun _ => ⟨by omega, hE1⟩) (fun hn2 => ?_)
  have k2 := h2 (by omega)
  refine LD_bs2 hb1 ?_
  refine call (szIntS_ok (h.2.2.ext hE1) _ (by omega) (by omega)) ?_
  rintro x3 _ ⟨h3, rfl⟩
  refine cond_dec (fun _ => ⟨by omega, hE1⟩) (fun hn3 => ?_)
  have k3 := h3 (by omega)
  exact ⟨fun _ => ⟨by omega, fun r hr => by have := k1.2.2 r hr; omega, by omega, by omega⟩, hE1⟩

theorem szNetwork_le {w : World} {a b c : Sl} {n : Net} (h : RNet w a b c n) :
    Calls Tryz.prog F.l_szNetwork #[.agg #[a.v, b.v, c.v], .int .i64 1048576] w (Ret [.at (.int .i64)] fun (x : Int) w' => (0 ≤ x → Small n ∧ x ≤ 1048576) ∧ Ext w w') := by
  refine C_l_szNetwork ?_
  unfold V_l_szNetwork
  refine NEW_intro fun pa w1 hp1 hs1 hE1 hb1 => ?_
  refine LD_bs0 hb1 ?_
  refine call (szEndSS_ok (h.1.ext hE1) _ (by omega) (by omega)) ?_
  rintro x1 _ ⟨h1, rfl⟩
  refine cond_dec (fun _ => ⟨by omega, hE1⟩) (fun hn1 => ?_)
  have k1 := h1 (by omega)
  refine LD_bs1 hb1 ?_
  refine call (szIntS_ok (h.2.1.ext hE1) _ (by omega) (by omega)) ?_
  rintro x2 _ ⟨h2, rfl⟩
  refine cond_dec (fun _ => ⟨by omega, hE1⟩) (fun hn2 => ?_)
  have k2 := h2 (by omega)
  refine LD_bs2 hb1 ?_
  refine call (szIntS_ok (h.2.2.ext hE1) _ (by omega) (by omega)) ?_
  rintro x3 _ ⟨h3, rfl⟩
  refine cond_dec (fun _ => ⟨by omega, hE1⟩) (fun hn3 => ?_)
  have k3 := h3 (by omega)
  exact ⟨fun _ => ⟨⟨by omega, fun r hr => by have := k1.2.2 r hr; omega, by omega, by omega⟩, by omega⟩, hE1⟩

theorem eqEnd_ok (x y z u : Int) (w : World) : Calls Tryz.prog F.l_eqEnd #[.agg #[.int .i64 x, .int .i64 y], .agg #[.int .i64 z, .int .i64 u]] w (Ret [.at .bool] fun (b : Bool) w' => b = decide ((x, y) = (z, u)) ∧ Ext w w') := by
  refine C_l_eqEnd ?_
  unfold V_l_eqEnd
  refine NEW_intro fun pa w1 hp1 hs1 hE1 hb1 => ?_
  refine NEW_intro fun pb w2 hp2 hs2 hE2 hb2 => ?_
  have ha := hb1.ext hE2
  refine LD_bi0 ha (LD_bi0 hb2 (cond_ne (fun hne => ⟨?_, hE1.trans hE2⟩) (fun he => ?_)))
  · rw [decide_eq_false]; intro h; exact hne (congrArg Prod.fst h)
  · refine LD_bi1 ha (LD_bi1 hb2 (cond_ne (fun hne => ⟨?_, hE1.trans hE2⟩) (fun he2 => ⟨?_, hE1.trans hE2⟩)))
    · rw [decide_eq_false]; intro h; exact hne (congrArg Prod.snd h)
    · rw [decide_eq_true]; rw [he, he2]

theorem eqEndS_ok {w : World} {a b : Sl} {l m : List (Int × Int)} (ha : R w a l) (hb : R w b m) :
    Calls Tryz.prog F.l_eqEndS #[a.v, b.v] w (Ret [.at .bool] fun (x : Bool) w' => x = decide (l = m) ∧ Ext w w') := by
  refine C_l_eqEndS ?_
  unfold V_l_eqEndS
  rw [ha.len, hb.len]
  refine cond_ne (fun hne => ⟨?_, Ext.refl _⟩) (fun he => ?_)
  · rw [decide_eq_false]; intro h; subst h; exact hne rfl
  · have hl : l.length = m.length := by omega
    refine ⟨IN l.length fun i w' => Ext w w' ∧ l.take i = m.take i, MN l.length, IN_zero ⟨Ext.refl _, by simp⟩, ?_⟩
    rintro x w1 ⟨i, rfl, hi, hE, ht⟩
    intros
    refine cond_dec (fun hlt => ?_) (fun hge => ⟨?_, hE⟩)
    · have h1 : i < l.length := by omega
      have h2 : i < m.length := by omega
      refine (ha.ext hE).ixE h1 fun p _ _ hc0 hc1 => LD_int2 hc0 hc1 ?_
      refine (hb.ext hE).ixE h2 fun p _ _ hc0 hc1 => LD_int2 hc0 hc1 ?_
      refine QCALL_bool _ (fun w' _ => eqEnd_ok _ _ _ _ w') ?_
      intro w2 hE2
      refine cond_not (fun hf => ⟨?_, hE.trans hE2⟩) (fun htr => ?_)
      · rw [decide_eq_false]; intro h; subst h; simp at hf
      · have heq : l[i] = m[i] := of_decide_eq_true htr
        exact IN_next ha.le h1 ⟨hE.trans hE2, by rw [List.take_succ_eq_append_getElem h1, List.take_succ_eq_append_getElem h2, ht, heq]⟩
    · have h3 : i = l.length := by omega
      subst h3
      rw [decide_eq_true]
      have h4 : m.take l.length = m := List.take_of_length_le (by omega)
      rw [h4, List.take_length] at ht
      exact ht

theorem eqEndSS_ok {w : World} {a b : Sl} {l m : List (List (Int × Int))} (ha : R w a l) (hb : R w b m) :
    Calls Tryz.prog F.l_eqEndSS #[a.v, b.v] w (Ret [.at .bool] fun (x : Bool) w' => x = decide (l = m) ∧ Ext w w') := by
  refine C_l_eqEndSS ?_
  unfold V_l_eqEndSS
  rw [ha.len, hb.len]
  refine cond_ne (fun hne => ⟨?_, Ext.refl _⟩) (fun he => ?_)
  · rw [decide_eq_false]; intro h; subst h; exact hne rfl
  · have hl : l.length = m.length := by omega
    refine ⟨IN l.length fun i w' => Ext w w' ∧ l.take i = m.take i, MN l.length, IN_zero ⟨Ext.refl _, by simp⟩, ?_⟩
    rintro x w1 ⟨i, rfl, hi, hE, ht⟩
    intros
    refine cond_dec (fun hlt => ?_) (fun hge => ⟨?_, hE⟩)
    · have h1 : i < l.length := by omega
      have h2 : i < m.length := by omega
      refine (ha.ext hE).ixL h1 fun p s1 hs1 hc => LD_sl hc ?_
      refine (hb.ext hE).ixL h2 fun p s2 hs2 hc => LD_sl hc ?_
      refine QCALL_bool _ (fun w' hw' => eqEndS_ok (hs1.any.ext hw') (hs2.any.ext hw')) ?_
      intro w2 hE2
      refine cond_not (fun hf => ⟨?_, hE.trans hE2⟩) (fun htr => ?_)
      · rw [decide_eq_false]; intro h; subst h; simp at hf
      · have heq : l[i] = m[i] := of_decide_eq_true htr
        exact IN_next ha.le h1 ⟨hE.trans hE2, by rw [List.take_succ_eq_append_getElem h1, List.take_succ_eq_append_getElem h2, ht, heq]⟩
    · have h3 : i = l.length := by omega
      subst h3
      rw [decide_eq_true]
      have h4 : m.take l.length = m := List.take_of_length_le (by omega)
      rw [h4, List.take_length] at ht
      exact ht

theorem eqNetwork_ok {w : World} {a b c x y z : Sl} {n : Net} (h : RNet w a b c n) (h' : RNet w x y z n) :
    Calls Tryz.prog F.l_eqNetwork #[.agg #[a.v, b.v, c.v], .agg #[x.v, y.v, z.v]] w (Ret [.at .bool] fun (r : Bool) w' => r = true ∧ Ext w w') := by
  refine C_l_eqNetwork ?_
  unfold V_l_eqNetwork
  refine NEW_intro fun pa w1 hp1 hs1 hE1 hb1 => ?_
  refine NEW_intro fun pb w2 hp2 hs2 hE2 hb2 => ?_
  have ha := hb1.ext hE2
  have hE := hE1.trans hE2
  refine LD_bs0 ha (LD_bs0 hb2 ?_)
  refine call (eqEndSS_ok (h.1.ext hE) (h'.1.ext hE)) ?_
  rintro _ w3 ⟨rfl, hE3⟩
  refine cond_f (by simp) ?_
  refine LD_bs1 (ha.ext hE3) (LD_bs1 (hb2.ext hE3) ?_)
  refine call (eqIntS_ok (h.2.1.ext (hE.trans hE3)) (h'.2.1.ext (hE.trans hE3))) ?_
  rintro _ w4 ⟨rfl, hE4⟩
  refine cond_f (by simp) ?_
  have hE34 := hE3.trans hE4
  refine LD_bs2 (ha.ext hE34) (LD_bs2 (hb2.ext hE34) ?_)
  refine call (eqIntS_ok (h.2.2.ext (hE.trans hE34)) (h'.2.2.ext (hE.trans hE34))) ?_
  rintro _ w5 ⟨rfl, hE5⟩
  exact cond_f (by simp) ⟨rfl, (hE.trans hE34).trans hE5⟩

end Go.Proofs.YtjfodknpphhajaaGreat
