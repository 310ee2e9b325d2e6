/- The laws' marks: what they write into copies and answers, and what they look for again. -/
import Derived.Test.YtjfodknpphhajaaGreatNet
import Derived.Test.YtjfodknpphhajaaGreatWrite
namespace Go.Proofs.YtjfodknpphhajaaGreat
open Go.GX Go.RowKit
set_option maxRecDepth 100000

theorem markIntS_ok {w : World} {base : Nat} {s : Sl} {l : List Int} (h : OwnL w base T.t_int s l) (k : Int) (h0 : 0 ≤ k) (h1 : k ≤ 1152921504606846976) (hl : l.length ≤ 1048576) :
    Calls Tryz.prog F.l_markIntS #[s.v, .int .i64 k] w (Ret [.at (.int .i64)] fun (r : Int) w' => r = k + l.length ∧ OwnL w' base T.t_int s (marks k l.length) ∧ Step w w' s.v.ownBlock) := by
  refine C_l_markIntS ?_
  unfold V_l_markIntS
  rw [h.1]
  refine ⟨IN2 l.length fun i r w' => r = k + i ∧ OwnL w' base T.t_int s (marks k i ++ l.drop i) ∧ Step w w' s.v.ownBlock, MN2 l.length, IN2_zero ⟨by simp, by simpa [marks] using h, Step.refl _ _⟩, ?_⟩
  rintro _ _ w1 ⟨i, rfl, hi, rfl, hO, hs⟩
  intros
  refine cond_dec (fun hlt => ?_) (fun hge => ?_)
  · have hi' : i < l.length := by omega
    have hml : (marks k i ++ l.drop i).length = l.length := by rw [List.length_append, marks_length, List.length_drop]; omega
    refine IX_own hO (by rw [hml]; exact hi') rfl fun p hp => ?_
    refine ST_own hO (by rw [hml]; exact hi') hp (k + i) rfl fun w2 hO2 hs2 => ?_
    rw [marks_step hi'] at hO2
    rw [wrap_of (n := k + i + 1) (by omega) (by omega)]
    exact IN2_next (by omega) hi' ⟨by omega, hO2, hs.trans hs2⟩
  · have : i = l.length := by omega
    subst this
    exact ⟨rfl, by simpa using hO, hs⟩

theorem heldIntS_ok {w : World} {s : Sl} {n : Nat} (k : Int) (h : R w s (marks k n)) (h0 : 0 ≤ k) (h1 : k ≤ 1152921504606846976) (hl : n ≤ 1048576) :
    Calls Tryz.prog F.l_heldIntS #[s.v, .int .i64 k] w (Ret [.at (.int .i64)] fun (r : Int) w' => r = k + n ∧ w = w') := by
  refine C_l_heldIntS ?_
  unfold V_l_heldIntS
  rw [h.len, marks_length]
  refine ⟨IN2 n fun i r w' => r = k + i ∧ w = w', MN2 n, IN2_zero ⟨by simp, rfl⟩, ?_⟩
  rintro _ _ w1 ⟨i, rfl, hi, rfl, rfl⟩
  intros
  refine cond_dec (fun hlt => ?_) (fun hge => ?_)
  · have hi' : i < (marks k n).length := by rw [marks_length]; omega
    refine h.ixI hi' fun p _ hc => LD_int hc ?_
    rw [marks_get]
    refine cond_ne (fun hne => absurd rfl hne) (fun _ => ?_)
    rw [wrap_of (n := k + i + 1) (by omega) (by omega)]
    exact IN2_next (by omega) (by omega) ⟨by omega, rfl⟩
  · have : i = n := by omega
    subst this
    exact ⟨rfl, rfl⟩

theorem markIntS_wr {w : World} {s : Sl} (h : Wr w s 1) (k : Int) (h0 : 0 ≤ k) (h1 : k ≤ 1152921504606846976) (hl : s.len ≤ 1048576) :
    Calls Tryz.prog F.l_markIntS #[s.v, .int .i64 k] w (Ret [.at (.int .i64)] fun (r : Int) w' => r = k + s.len ∧ Shp w w' ∧ Chg w w' (blkOf s)) := by
  refine C_l_markIntS ?_
  unfold V_l_markIntS
  refine ⟨IN2 s.len fun i r w' => r = k + i ∧ Shp w w' ∧ Chg w w' (blkOf s), MN2 s.len, IN2_zero ⟨by simp, Shp.refl _, Chg.refl _ _⟩, ?_⟩
  rintro _ _ w1 ⟨i, rfl, hi, rfl, hS, hC⟩
  intros
  refine cond_dec (fun hlt => ?_) (fun hge => ?_)
  · have hi' : i < s.len := by omega
    refine IX_wr (h.shp hS) (by decide) hi' fun a ha => ?_
    refine ST_wr1 (i := i) (h.shp hS) ha (by rw [add_add]; simp) (by omega) rfl fun w2 hS2 hC2 _ => ?_
    rw [wrap_of (n := k + i + 1) (by omega) (by omega)]
    exact IN2_next (by omega) hi' ⟨by omega, hS.trans hS2, hC.trans hC2⟩
  · have : i = s.len := by omega
    subst this
    exact ⟨rfl, hS, hC⟩

theorem markEndS_wr {w : World} {s : Sl} (h : Wr w s 2) (k : Int) (h0 : 0 ≤ k) (h1 : k ≤ 1152921504606846976) (hl : s.len ≤ 1048576) :
    Calls Tryz.prog F.l_markEndS #[s.v, .int .i64 k] w (Ret [.at (.int .i64)] fun (r : Int) w' => r = k + 2 * s.len ∧ Shp w w' ∧ Chg w w' (blkOf s)) := by
  refine C_l_markEndS ?_
  unfold V_l_markEndS
  refine ⟨IN2 s.len fun i r w' => r = k + 2 * i ∧ Shp w w' ∧ Chg w w' (blkOf s), MN2 s.len, IN2_zero ⟨by simp, Shp.refl _, Chg.refl _ _⟩, ?_⟩
  rintro _ _ w1 ⟨i, rfl, hi, rfl, hS, hC⟩
  intros
  refine cond_dec (fun hlt => ?_) (fun hge => ?_)
  · have hi' : i < s.len := by omega
    refine IX_wr (h.shp hS) (by decide) hi' fun a ha => ?_
    refine ST_wr1 (i := i * 2) (h.shp hS) ha (by rw [add_add, add_add]; simp) (by omega) rfl fun w2 hS2 hC2 _ => ?_
    have hS' := hS.trans hS2
    refine IX_wr (h.shp hS') (by decide) hi' fun a' ha' => ?_
    rw [wrap_of (n := k + 2 * i + 1) (by omega) (by omega)]
    refine ST_wr1 (i := i * 2 + 1) (h.shp hS') ha' (by rw [add_add, add_add]) (by omega) rfl fun w3 hS3 hC3 _ => ?_
    rw [wrap_of (n := k + 2 * i + 1 + 1) (by omega) (by omega)]
    exact IN2_next (by omega) hi' ⟨by omega, hS'.trans hS3, (hC.trans hC2).trans hC3⟩
  · have : i = s.len := by omega
    subst this
    exact ⟨rfl, hS, hC⟩

/-- A slice of numbers that may be marked: its blocks lie between two bounds. -/
structure MInt (w : World) (s : Sl) (lo hi : Nat) : Prop where
  wr : Wr w s 1
  len : s.len ≤ 1048576
  blk : ∀ b, blkOf s b → lo ≤ b ∧ b < hi

theorem MInt.shp {w w' : World} {s : Sl} {lo hi : Nat} (h : MInt w s lo hi) (hs : Shp w w') : MInt w' s lo hi := ⟨h.wr.shp hs, h.len, h.blk⟩
theorem MInt.ext {w w' : World} {s : Sl} {lo hi : Nat} (h : MInt w s lo hi) (hE : Ext w w') : MInt w' s lo hi := h.shp (Shp.ext hE)

theorem blkOf_own {α : Type} [Flat α] {w : World} {base : Nat} {e : TypeId} {s : Sl} {l : List α} (h : OwnL w base e s l) {b : Nat} (hb : blkOf s b) : s.v.ownBlock = some b := by
  obtain ⟨a, ha, rfl⟩ := hb
  rcases h.2.2 with ⟨hv, _⟩ | ⟨g, cap, cur, hv, _⟩
  · simp [Sl.v] at hv; rw [ha] at hv; cases hv.1
  · simp [Sl.v] at hv
    rw [ha] at hv
    simp [Sl.v, ha, Value.ownBlock]

theorem mint_of {w : World} {base : Nat} {s : Sl} {l : List Int} (h : OwnL w base T.t_int s l) (hl : l.length ≤ 1048576) : MInt w s base w.heap.size :=
  ⟨h.wr, by rw [h.1]; exact hl, fun b hb => h.blk b (blkOf_own h hb)⟩

/-- A slice of slices of numbers that may be marked. -/
structure MIntSS (w : World) (s : Sl) (lo hi : Nat) : Prop where
  ex : ∃ ss : List Sl, OwnL w lo T.t_sl_int s ss ∧ ss.length ≤ 1048576 ∧ ∀ r ∈ ss, MInt w r lo hi ∧ ∀ b, blkOf r b → s.v.ownBlock ≠ some b

/-- A network that may be marked. -/
structure MNet (w : World) (x y z : Sl) (lo hi : Nat) : Prop where
  ends : ∃ ss : List Sl, OwnL w lo T.t_sl_i_End x ss ∧ ss.length ≤ 1048576 ∧ ∀ r ∈ ss, Wr w r 2 ∧ r.len ≤ 1048576 ∧ ∀ b, blkOf r b → (lo ≤ b ∧ b < hi) ∧ x.v.ownBlock ≠ some b
  ids : MInt w y lo hi
  inputs : MInt w z lo hi

theorem MNet.ext {w w' : World} {x y z : Sl} {lo hi : Nat} (h : MNet w x y z lo hi) (hE : Ext w w') : MNet w' x y z lo hi := by
  obtain ⟨⟨ss, h1, h2, h3⟩, h4, h5⟩ := h
  exact ⟨⟨ss, h1.ext hE, h2, fun r hr => ⟨(h3 r hr).1.shp (Shp.ext hE), (h3 r hr).2⟩⟩, h4.ext hE, h5.ext hE⟩

theorem OwnNet.mnet {w : World} {base : Nat} {x y z : Sl} {n : Net} (h : OwnNet w base x y z n) (hs : Small n) : MNet w x y z base w.heap.size := by
  obtain ⟨⟨ss, h1, h2, h3⟩, h4, h5⟩ := h
  refine ⟨⟨ss, h1, by rw [h2]; exact hs.1, fun r hr => ?_⟩, mint_of h4 hs.2.2.1, mint_of h5 hs.2.2.2⟩
  obtain ⟨i, hi, rfl⟩ := List.mem_iff_getElem.1 hr
  have hi2 : i < n.ends.length := by omega
  have hO := h3 i ss[i] n.ends[i] (by simp [hi]) (by simp [hi2])
  refine ⟨hO.wr, by rw [hO.1]; exact hs.2.1 _ (List.getElem_mem hi2), fun b hb => ?_⟩
  have hb' := blkOf_own hO hb
  refine ⟨hO.blk b hb', fun he => ?_⟩
  obtain ⟨c1, e1⟩ := hO.type hb'
  obtain ⟨c2, e2⟩ := h1.type he
  rw [e1] at e2
  exact absurd (Obj.cells.inj (Option.some.inj e2)).2.1 (by decide)

theorem markEndSS_ok {w : World} {x : Sl} {lo hi : Nat} {ss : List Sl} (hO : OwnL w lo T.t_sl_i_End x ss) (hl : ss.length ≤ 1048576)
    (hr : ∀ r ∈ ss, Wr w r 2 ∧ r.len ≤ 1048576 ∧ ∀ b, blkOf r b → (lo ≤ b ∧ b < hi) ∧ x.v.ownBlock ≠ some b) :
    Calls Tryz.prog F.l_markEndSS #[x.v, .int .i64 1] w (Ret [.at (.int .i64)] fun (r : Int) w' => 0 ≤ r ∧ r ≤ 4503599627370496 ∧ Shp w w' ∧ Chg w w' (fun b => lo ≤ b ∧ b < hi)) := by
  refine C_l_markEndSS ?_
  unfold V_l_markEndSS
  rw [hO.1]
  refine ⟨IN2 ss.length fun i r w' => 0 ≤ r ∧ r ≤ 1 + 2097152 * i ∧ Shp w w' ∧ Chg w w' (fun b => (lo ≤ b ∧ b < hi) ∧ x.v.ownBlock ≠ some b), MN2 ss.length, IN2_zero ⟨by omega, by omega, Shp.refl _, Chg.refl _ _⟩, ?_⟩
  rintro k _ w1 ⟨i, rfl, hi', h0, h1, hS, hC⟩
  intros
  refine cond_dec (fun hlt => ?_) (fun hge => ?_)
  · have hi2 : i < ss.length := by omega
    have hO1 : OwnL w1 lo T.t_sl_i_End x ss := hO.chg hC fun b hb hD => hD.2 hb
    have hR := hO1.rep fun _ _ => trivial
    refine hR.ix (n := 1) rfl (by omega) (by omega) fun p cs hrep hc => ?_
    simp only [Int.toNat_natCast] at hrep
    have hcs : cs = [ss[i].v] := hrep
    subst hcs
    refine LD_sl (hc 0 _ rfl) ?_
    obtain ⟨hw, hlen, hb⟩ := hr _ (List.getElem_mem hi2)
    refine call (markEndS_wr (hw.shp hS) k h0 (by omega) hlen) ?_
    rintro r w2 ⟨rfl, hS2, hC2⟩
    exact IN2_next (by omega) hi2 ⟨by omega, by omega, hS.trans hS2, hC.trans (hC2.mono fun b hb' => hb b hb')⟩
  · have : i = ss.length := by omega
    subst this
    exact ⟨h0, by omega, hS, hC.mono fun b hb => hb.1⟩

theorem markNetwork_ok {w : World} {x y z : Sl} {lo hi : Nat} (h : MNet w x y z lo hi) (hw : hi ≤ w.heap.size) :
    Calls Tryz.prog F.l_markNetwork #[.agg #[x.v, y.v, z.v], .int .i64 1] w (Ret [.at (.int .i64)] fun (r : Int) w' => 0 ≤ r ∧ r ≤ 9007199254740992 ∧ Shp w w' ∧ Chg w w' (fun b => lo ≤ b ∧ b < hi)) := by
  refine C_l_markNetwork ?_
  unfold V_l_markNetwork
  refine NEW_intro fun p w1 hp hs hE hb => ?_
  obtain ⟨⟨ss, h1, h2, h3⟩, h4, h5⟩ := h.ext hE
  refine LD_bs0 hb ?_
  refine call (markEndSS_ok h1 h2 h3) ?_
  rintro r1 w2 ⟨ha, hb2, hS, hC⟩
  have hbx := hb.chg hC (by rw [hp]; intro hh; omega)
  refine LD_bs1 hbx ?_
  refine call (markIntS_wr (h4.wr.shp hS) r1 ha (by omega) h4.len) ?_
  rintro r2 w3 ⟨rfl, hS2, hC2⟩
  have hC2' := hC2.mono h4.blk
  have hbx2 := hbx.chg hC2' (by rw [hp]; intro hh; omega)
  have := h4.len
  have := h5.len
  refine LD_bs2 hbx2 ?_
  refine call (markIntS_wr (h5.wr.shp (hS.trans hS2)) _ (by omega) (by omega) h5.len) ?_
  rintro r3 w4 ⟨rfl, hS3, hC3⟩
  exact ⟨by omega, by omega, (((Shp.ext hE).trans hS).trans hS2).trans hS3, (((Chg.of_ext hE).trans hC).trans hC2').trans (hC3.mono h5.blk)⟩

theorem markEndSS_at (k0 : Int) (hk0 : 0 ≤ k0) (hk1 : k0 ≤ 4503599627370496) {w : World} {x : Sl} {lo hi : Nat} {ss : List Sl} (hO : OwnL w lo T.t_sl_i_End x ss) (hl : ss.length ≤ 1048576)
    (hr : ∀ r ∈ ss, Wr w r 2 ∧ r.len ≤ 1048576 ∧ ∀ b, blkOf r b → (lo ≤ b ∧ b < hi) ∧ x.v.ownBlock ≠ some b) :
    Calls Tryz.prog F.l_markEndSS #[x.v, .int .i64 k0] w (Ret [.at (.int .i64)] fun (r : Int) w' => 0 ≤ r ∧ r ≤ k0 + 4503599627370496 ∧ Shp w w' ∧ Chg w w' (fun b => lo ≤ b ∧ b < hi)) := by
  refine C_l_markEndSS ?_
  unfold V_l_markEndSS
  rw [hO.1]
  refine ⟨IN2 ss.length fun i r w' => 0 ≤ r ∧ r ≤ k0 + 2097152 * i ∧ Shp w w' ∧ Chg w w' (fun b => (lo ≤ b ∧ b < hi) ∧ x.v.ownBlock ≠ some b), MN2 ss.length, IN2_zero ⟨by omega, by omega, Shp.refl _, Chg.refl _ _⟩, ?_⟩
  rintro k _ w1 ⟨i, rfl, hi', h0, h1, hS, hC⟩
  intros
  refine cond_dec (fun hlt => ?_) (fun hge => ?_)
  · have hi2 : i < ss.length := by omega
    have hO1 : OwnL w1 lo T.t_sl_i_End x ss := hO.chg hC fun b hb hD => hD.2 hb
    have hR := hO1.rep fun _ _ => trivial
    refine hR.ix (n := 1) rfl (by omega) (by omega) fun p cs hrep hc => ?_
    simp only [Int.toNat_natCast] at hrep
    have hcs : cs = [ss[i].v] := hrep
    subst hcs
    refine LD_sl (hc 0 _ rfl) ?_
    obtain ⟨hw, hlen, hb⟩ := hr _ (List.getElem_mem hi2)
    refine call (markEndS_wr (hw.shp hS) k h0 (by omega) hlen) ?_
    rintro r w2 ⟨rfl, hS2, hC2⟩
    exact IN2_next (by omega) hi2 ⟨by omega, by omega, hS.trans hS2, hC.trans (hC2.mono fun b hb' => hb b hb')⟩
  · have : i = ss.length := by omega
    subst this
    exact ⟨h0, by omega, hS, hC.mono fun b hb => hb.1⟩

theorem markNetwork_at (k0 : Int) (hk0 : 0 ≤ k0) (hk1 : k0 ≤ 4503599627370496) {w : World} {x y z : Sl} {lo hi : Nat} (h : MNet w x y z lo hi) (hw : hi ≤ w.heap.size) :
    Calls Tryz.prog F.l_markNetwork #[.agg #[x.v, y.v, z.v], .int .i64 k0] w (Ret [.at (.int .i64)] fun (r : Int) w' => 0 ≤ r ∧ r ≤ k0 + 9007199254740992 ∧ Shp w w' ∧ Chg w w' (fun b => lo ≤ b ∧ b < hi)) := by
  refine C_l_markNetwork ?_
  unfold V_l_markNetwork
  refine NEW_intro fun p w1 hp hs hE hb => ?_
  obtain ⟨⟨ss, h1, h2, h3⟩, h4, h5⟩ := h.ext hE
  refine LD_bs0 hb ?_
  refine call (markEndSS_at k0 hk0 hk1 h1 h2 h3) ?_
  rintro r1 w2 ⟨ha, hb2, hS, hC⟩
  have hbx := hb.chg hC (by rw [hp]; intro hh; omega)
  refine LD_bs1 hbx ?_
  refine call (markIntS_wr (h4.wr.shp hS) r1 ha (by omega) h4.len) ?_
  rintro r2 w3 ⟨rfl, hS2, hC2⟩
  have hC2' := hC2.mono h4.blk
  have hbx2 := hbx.chg hC2' (by rw [hp]; intro hh; omega)
  have := h4.len
  have := h5.len
  refine LD_bs2 hbx2 ?_
  refine call (markIntS_wr (h5.wr.shp (hS.trans hS2)) _ (by omega) (by omega) h5.len) ?_
  rintro r3 w4 ⟨rfl, hS3, hC3⟩
  exact ⟨by omega, by omega, (((Shp.ext hE).trans hS).trans hS2).trans hS3, (((Chg.of_ext hE).trans hC).trans hC2').trans (hC3.mono h5.blk)⟩

/-! ### Answers that are lists -/

/-- An answer of the call's own: its blocks lie from base on. -/
structure OutL (base : Nat) (w : World) (s : Sl) (l : List Int) : Prop where
  own : OwnL w base T.t_int s l
  i64 : ∀ x ∈ l, I64 x
  small : l.length ≤ 1048576

theorem OutL.rep {base : Nat} {w : World} {s : Sl} {l : List Int} (h : OutL base w s l) : R w s l := (h.own.rep h.i64).any
theorem OutL.ext {base : Nat} {w w' : World} {s : Sl} {l : List Int} (h : OutL base w s l) (hE : Ext w w') : OutL base w' s l := ⟨h.own.ext hE, h.i64, h.small⟩
theorem OutL.chgR {base lo hi : Nat} {w w' : World} {s : Sl} {l : List Int} (h : OutL base w s l) (hC : Chg w w' (fun b => lo ≤ b ∧ b < hi)) (hh : hi ≤ base) : OutL base w' s l :=
  ⟨h.own.chg hC fun b hb hD => by have := (h.own.blk b hb).1; have := hD.2; omega, h.i64, h.small⟩
theorem OutL.nil (base : Nat) (w : World) : OutL base w ⟨none, 0, 0⟩ [] := ⟨OwnL.nil _ _ _, by simp, by simp⟩
theorem OutL.low {base b : Nat} {w : World} {s : Sl} {l : List Int} (h : OutL base w s l) (hb : b ≤ base) : OutL b w s l := ⟨h.own.low hb, h.i64, h.small⟩

theorem markIntS_out {base : Nat} {w : World} {s : Sl} {l : List Int} (h : OutL base w s l) (k : Int) (h0 : 0 ≤ k) (h1 : k ≤ 1152921504606846976) :
    Calls Tryz.prog F.l_markIntS #[s.v, .int .i64 k] w (Ret [.at (.int .i64)] fun (r : Int) w' => r = k + l.length ∧ R w' s (marks k l.length) ∧ Chg w w' (fun b => base ≤ b)) := by
  refine call (markIntS_ok h.own k h0 h1 h.small) ?_
  rintro r w' ⟨rfl, hO, hs⟩
  have := h.small
  exact ⟨rfl, (hO.rep (marks_I64 h0 (by omega))).any, .of_step hs fun k hk => (h.own.blk k hk).1⟩

end Go.Proofs.YtjfodknpphhajaaGreat
