/- What the laws do with matrices: copy, compare, measure. Turned from our texts on a network's ends. -/
import Derived.Test.YtjfodknpphhajaaGreatMark
import Derived.Test.YtjfodknpphhajaaGreatRowsD
namespace Go.Proofs.YtjfodknpphhajaaGreat
open Go.GX Go.RowKit
set_option maxRecDepth 100000

/-- A matrix of bounded size. -/
def SmallM (l : List (List Int)) : Prop := l.length ≤ 1048576 ∧ ∀ r ∈ l, r.length ≤ 1048576

theorem slt_rows : SlT Tryz.prog T.t_sl_sl_int T.t_sl_int 1 24 (.slice none 0 0) := ⟨by kernel_rfl, by kernel_rfl, rfl, by decide⟩

theorem toIntSS_own {w : World} {a : Sl} {l : List (List Int)} (h : R w a l) (hb : l.length ≤ 1048576) (hbb : ∀ r ∈ l, r.length ≤ 1048576) :
    Calls Tryz.prog F.l_toIntSS #[a.v] w (Ret [.at .sl] fun (s : Sl) w' => Ext w w' ∧ Own2 w' w.heap.size T.t_int T.t_sl_int s l) := by
  refine C_l_toIntSS ?_
  unfold V_l_toIntSS
  rw [h.len]
  refine RUN_make (α := Sl) slt_rows (d := ⟨none, 0, 0⟩) rfl (by omega) (by unfold maxLen; omega) fun s w1 hE1 hO1 => ?_
  refine ⟨IN l.length fun i w' => Ext w w' ∧ ∃ ss : List Sl, ss.length = l.length ∧ OwnL w' w.heap.size T.t_sl_int s ss ∧ ∀ (k : Nat) (q : Sl) (m : List Int), k < i → ss[k]? = some q → l[k]? = some m → OwnL w' w.heap.size T.t_int q m, MN l.length,
    IN_zero ⟨hE1, List.replicate l.length ⟨none, 0, 0⟩, by simp, hO1, fun k _ _ h3 => by omega⟩, ?_⟩
  rintro x w2 ⟨i, rfl, hi, hE, ss, hss, hO, hR⟩
  intros
  refine cond_dec (fun hlt => ?_) (fun hge => ?_)
  · have hlt' : i < l.length := by omega
    refine (h.ext hE).ixL hlt' fun p s' hs' hc => LD_sl hc ?_
    have hz := hE.size_le
    refine call (toIntS_ok hs'.any (hbb _ (List.getElem_mem _))) ?_
    rintro s3 w3 ⟨hE3, hO3⟩
    have hO' := hO.ext hE3
    refine IX_own hO' (by omega) rfl fun p hp => ?_
    refine ST_own hO' (by omega) hp s3 rfl fun w4 hO4 hs => ?_
    refine IN_next (by omega) hlt' ⟨hs.ext0 (hE.trans hE3) (fun k hk => (hO'.blk k hk).1), ss.set i s3, by simp [hss], hO4, fun k q m h1 h2 h3 => ?_⟩
    by_cases hk : k = i
    · subst hk
      rw [List.getElem?_set_self (by omega)] at h2
      rw [List.getElem?_eq_getElem hlt'] at h3
      cases h2
      cases h3
      exact (hO3.low hz).step hO' (by decide) hs
    · rw [List.getElem?_set_ne (Ne.symm hk)] at h2
      exact ((hR k q m (by omega) h2 h3).ext hE3).step hO' (by decide) hs
  · have : i = l.length := by omega
    subst this
    refine ⟨hE, ss, hO, hss, fun k q m h2 h3 => hR k q m (List.getElem?_eq_some_iff.1 h3).1 h2 h3⟩

theorem flat_okII {w : World} {s : Sl} {l : List (List Int)} (h : R w s l) : ∀ r ∈ l, ∀ x ∈ r, Flat.ok x := fun r hr x hx => by
  obtain ⟨i, hi, rfl⟩ := List.mem_iff_getElem.1 hr
  obtain ⟨_, _, _, _, ⟨s', _, h1⟩, _⟩ := h.2.2 i l[i] (by simp [hi])
  exact flat_ok h1 x hx

theorem szIntSS_ok {w : World} {a : Sl} {l : List (List Int)} (h : R w a l) (left : Int) (h0 : 0 ≤ left) (h1 : left ≤ 1048576) :
    Calls Tryz.prog F.l_szIntSS #[a.v, .int .i64 left] w (Ret [.at (.int .i64)] fun (x : Int) w' => (0 ≤ x → x ≤ left ∧ l.length ≤ left ∧ ∀ r ∈ l, r.length ≤ left) ∧ w = w') := by
  refine C_l_szIntSS ?_
  unfold V_l_szIntSS
  have := h.le
  rw [h.len, wrap_of (by omega) (by omega)]
  refine cond_dec (fun _ => ⟨by omega, rfl⟩) (fun hle => ?_)
  refine ⟨fun y x w' => w = w' ∧ 0 ≤ y ∧ y ≤ left ∧ ∃ i : Nat, x = i ∧ i ≤ l.length ∧ ∀ r ∈ l.take i, r.length ≤ left, fun _ x _ => l.length - x.toNat, ⟨rfl, by omega, by omega, 0, rfl, by omega, by simp⟩, ?_⟩
  rintro y x _ ⟨rfl, hy0, hy, i, rfl, hi, hr⟩
  intros
  refine cond_dec (fun hlt => ?_) (fun hge => ⟨fun _ => ⟨hy, by omega, ?_⟩, rfl⟩)
  · have hlt' : i < l.length := by omega
    refine h.ixL hlt' fun p s' hs' hc => LD_sl hc ?_
    refine call (szIntS_ok hs'.any y hy0 (by omega)) ?_
    rintro x _ ⟨hx, rfl⟩
    refine cond_dec (fun _ => ⟨by omega, rfl⟩) (fun hn => ?_)
    have hx' := hx (by omega)
    rw [wrap_of (by omega) (by omega)]
    refine ⟨⟨rfl, by omega, by omega, i + 1, by omega, hlt', fun r hr' => ?_⟩, by simp only []; omega⟩
    rw [List.take_succ_eq_append_getElem hlt'] at hr'
    rcases List.mem_append.1 hr' with h3 | h3
    · exact hr r h3
    · rw [List.mem_singleton.1 h3]; omega
  · have : i = l.length := by omega
    subst this
    simpa using hr

theorem eqIntSS_ok {w : World} {a b : Sl} {l m : List (List Int)} (ha : R w a l) (hb : R w b m) :
    Calls Tryz.prog F.l_eqIntSS #[a.v, b.v] w (Ret [.at .bool] fun (x : Bool) w' => x = decide (l = m) ∧ Ext w w') := by
  refine C_l_eqIntSS ?_
  unfold V_l_eqIntSS
  rw [ha.len, hb.len]
  refine cond_ne (fun hne => ⟨?_, Ext.refl _⟩) (fun he => ?_)
  · rw [decide_eq_false]; intro h; subst h; exact hne rfl
  · have hl : l.length = m.length := by omega
    refine ⟨IN l.length fun i w' => Ext w w' ∧ l.take i = m.take i, MN l.length, IN_zero ⟨Ext.refl _, by simp⟩, ?_⟩
    rintro x w1 ⟨i, rfl, hi, hE, ht⟩
    intros
    refine cond_dec (fun hlt => ?_) (fun hge => ⟨?_, hE⟩)
    · have h1 : i < l.length := by omega
      have h2 : i < m.length := by omega
      refine (ha.ext hE).ixL h1 fun p s1 hs1 hc => LD_sl hc ?_
      refine (hb.ext hE).ixL h2 fun p s2 hs2 hc => LD_sl hc ?_
      refine QCALL_bool _ (fun w' hw' => eqIntS_ok (hs1.any.ext hw') (hs2.any.ext hw')) ?_
      intro w2 hE2
      refine cond_not (fun hf => ⟨?_, hE.trans hE2⟩) (fun htr => ?_)
      · rw [decide_eq_false]; intro h; subst h; simp at hf
      · have heq : l[i] = m[i] := of_decide_eq_true htr
        exact IN_next ha.le h1 ⟨hE.trans hE2, by rw [List.take_succ_eq_append_getElem h1, List.take_succ_eq_append_getElem h2, ht, heq]⟩
    · have h3 : i = l.length := by omega
      subst h3
      rw [decide_eq_true]
      have h4 : m.take l.length = m := List.take_of_length_le (by omega)
      rw [h4, List.take_length] at ht
      exact ht

theorem toIntSS_ok {w : World} {a : Sl} {l : List (List Int)} (h : R w a l) (hb : l.length ≤ 1048576) (hbb : ∀ r ∈ l, r.length ≤ 1048576) :
    Calls Tryz.prog F.l_toIntSS #[a.v] w (Ret [.at .sl] fun (s : Sl) w' => Ext w w' ∧ R w' s l) := by
  refine call (toIntSS_own h hb hbb) ?_
  rintro s w' ⟨hE, hO⟩
  exact ⟨hE, hO.rep (flat_okII h)⟩

/-! ### Marks in matrices -/

/-- How many numbers lie in the first rows. -/
def pre (L : List (List Int)) (i : Nat) : Nat := ((L.take i).map List.length).sum
theorem pre_zero (L : List (List Int)) : pre L 0 = 0 := by simp [pre]
theorem pre_succ {L : List (List Int)} {i : Nat} (hi : i < L.length) : pre L (i + 1) = pre L i + L[i].length := by
  unfold pre
  rw [List.take_succ_eq_append_getElem hi, List.map_append, List.sum_append]
  simp
theorem pre_le {L : List (List Int)} (hL : ∀ r ∈ L, r.length ≤ 1048576) : ∀ i, i ≤ L.length → pre L i ≤ 1048576 * i
  | 0, _ => by simp [pre]
  | i + 1, hi => by
    have ih := pre_le hL i (by omega)
    rw [pre_succ (by omega)]
    have := hL _ (List.getElem_mem (show i < L.length by omega))
    omega

def marks2 (k : Int) (L : List (List Int)) : List (List Int) := (List.range L.length).map fun i => marks (k + pre L i) (L.getD i []).length
theorem marks2_len (k : Int) (L : List (List Int)) : (marks2 k L).length = L.length := by simp [marks2]
theorem marks2_get {k : Int} {L : List (List Int)} {i : Nat} (hi : i < L.length) : (marks2 k L)[i]'(by rw [marks2_len]; exact hi) = marks (k + pre L i) L[i].length := by
  simp [marks2, hi]

/-- A matrix of the call's own: its rows lie apart from each other. -/
structure OutM (base : Nat) (w : World) (s : Sl) (L : List (List Int)) : Prop where
  ex : ∃ ss : List Sl, RowsD w base T.t_int T.t_sl_int s L ss
  i64 : ∀ r ∈ L, ∀ x ∈ r, I64 x
  rows : L.length ≤ 1048576
  small : ∀ r ∈ L, r.length ≤ 1048576

theorem OutM.own2 {base : Nat} {w : World} {s : Sl} {L : List (List Int)} (h : OutM base w s L) : Own2 w base T.t_int T.t_sl_int s L := by
  obtain ⟨ss, h1, h2, h3, _⟩ := h.ex
  exact ⟨ss, h1, h2, h3⟩
theorem OutM.rep {base : Nat} {w : World} {s : Sl} {L : List (List Int)} (h : OutM base w s L) : R w s L := h.own2.rep h.i64
theorem OutM.keep {base : Nat} {w w' : World} {s : Sl} {L : List (List Int)} (h : OutM base w s L) (hk : ∀ k, base ≤ k → k < w.heap.size → w'.heap[k]? = w.heap[k]?) : OutM base w' s L := by
  obtain ⟨ss, h1, h2, h3, h4⟩ := h.ex
  exact ⟨⟨ss, h1.keep fun k hb => hk k (h1.blk k hb).1 (h1.blk k hb).2, h2, fun i r l hr hl => (h3 i r l hr hl).keep fun k hb => hk k ((h3 i r l hr hl).blk k hb).1 ((h3 i r l hr hl).blk k hb).2, h4⟩, h.i64, h.rows, h.small⟩
theorem OutM.ext {base : Nat} {w w' : World} {s : Sl} {L : List (List Int)} (h : OutM base w s L) (hE : Ext w w') : OutM base w' s L := h.keep fun _ _ hk => hE.same hk
theorem OutM.chgR {base lo hi : Nat} {w w' : World} {s : Sl} {L : List (List Int)} (h : OutM base w s L) (hC : Chg w w' (fun b => lo ≤ b ∧ b < hi)) (hh : hi ≤ base) : OutM base w' s L :=
  h.keep fun k hk hlt => hC.block k hlt fun hD => by have := hD.2; omega
theorem OutM.nil (base : Nat) (w : World) : OutM base w ⟨none, 0, 0⟩ [] := ⟨⟨[], OwnL.nil _ _ _, rfl, fun i r l h => by simp at h, fun i j r q h => by simp at h⟩, by simp, by simp, by simp⟩
theorem OutM.low {base b : Nat} {w : World} {s : Sl} {L : List (List Int)} (h : OutM base w s L) (hb : b ≤ base) : OutM b w s L := by
  obtain ⟨ss, h1, h2, h3, h4⟩ := h.ex
  exact ⟨⟨ss, h1.low hb, h2, fun i r l hr hl => (h3 i r l hr hl).low hb, h4⟩, h.i64, h.rows, h.small⟩

theorem rows_apart {w w' : World} {base base' : Nat} {r q : Sl} {l m : List Int} (h : OwnL w base T.t_int r l) (_ : OwnL w base' T.t_int q m) (hd : ∀ k, r.v.ownBlock = some k → q.v.ownBlock ≠ some k) (hs : Step w w' q.v.ownBlock) : OwnL w' base T.t_int r l :=
  h.keep fun k hk => hs.block k (h.blk k hk).2 fun he => hd k hk he.symm

theorem markIntSS_out {base : Nat} {w : World} {s : Sl} {L : List (List Int)} (h : OutM base w s L) (k : Int) (h0 : 0 ≤ k) (h1 : k ≤ 1125899906842624000) :
    Calls Tryz.prog F.l_markIntSS #[s.v, .int .i64 k] w (Ret [.at (.int .i64)] fun (r : Int) w' => r = k + pre L L.length ∧ R w' s (marks2 k L) ∧ Chg w w' (fun b => base ≤ b)) := by
  refine C_l_markIntSS ?_
  unfold V_l_markIntSS
  obtain ⟨ss, hO, hlen, hR, hD⟩ := h.ex
  have hrows := h.rows
  rw [hO.1]
  have hpl := fun i hi => pre_le h.small i hi
  refine ⟨IN2 ss.length fun i r w' => r = k + pre L i ∧ OwnL w' base T.t_sl_int s ss ∧ (∀ (j : Nat) (q : Sl) (l : List Int), ss[j]? = some q → (if j < i then marks2 k L else L)[j]? = some l → OwnL w' base T.t_int q l) ∧ Chg w w' (fun b => base ≤ b), MN2 ss.length,
    IN2_zero ⟨by simp [pre], hO, by simpa using hR, Chg.refl _ _⟩, ?_⟩
  rintro _ _ w1 ⟨i, rfl, hi, rfl, hO1, hR1, hC1⟩
  intros
  refine cond_dec (fun hlt => ?_) (fun hge => ?_)
  · have hi' : i < ss.length := by omega
    have hiL : i < L.length := by omega
    refine (hO1.rep fun _ _ => trivial).ix (n := 1) rfl (by omega) (by omega) fun p cs hrep hc => ?_
    simp only [Int.toNat_natCast] at hrep
    have hcs : cs = [ss[i].v] := hrep
    subst hcs
    refine LD_sl (hc 0 _ rfl) ?_
    have hOi := hR1 i ss[i] L[i] (by simp [hi']) (by simp [hiL])
    have hp := hpl i (by omega)
    refine call (markIntS_ok hOi (k + pre L i) (by omega) (by omega) (h.small _ (List.getElem_mem hiL))) ?_
    rintro r w2 ⟨rfl, hO2, hs2⟩
    refine IN2_next (by omega) hi' ⟨by rw [pre_succ hiL]; omega, hO1.keep fun b hb => hs2.block b (hO1.blk b hb).2 fun he => ?_, fun j q l hq hl => ?_, hC1.trans (.of_step hs2 fun b hb => (hOi.blk b hb).1)⟩
    · obtain ⟨c1, e1⟩ := hO1.type hb
      obtain ⟨c2, e2⟩ := hOi.type he.symm
      rw [e1] at e2
      exact absurd (Obj.cells.inj (Option.some.inj e2)).2.1 (by decide)
    · by_cases hji : j = i
      · subst hji
        rw [if_pos (by omega), List.getElem?_eq_getElem (by rw [marks2_len]; exact hiL), marks2_get hiL] at hl
        rw [List.getElem?_eq_getElem hi'] at hq
        cases hq
        cases hl
        exact hO2
      · have hl' : (if j < i then marks2 k L else L)[j]? = some l := by
          by_cases hj : j < i
          · rw [if_pos (by omega)] at hl; rw [if_pos hj]; exact hl
          · rw [if_neg (by omega)] at hl; rw [if_neg hj]; exact hl
        exact rows_apart (hR1 j q l hq hl') hOi (hD j i q ss[i] hq (by simp [hi']) hji) hs2
  · have : i = ss.length := by omega
    subst this
    refine ⟨by rw [hlen], ?_, hC1⟩
    have hown : Own2 w1 base T.t_int T.t_sl_int s (marks2 k L) := ⟨ss, hO1, by rw [marks2_len]; exact hlen, fun j q l hq hl => hR1 j q l hq (by rw [if_pos (List.getElem?_eq_some_iff.1 hq).1]; exact hl)⟩
    refine hown.rep fun r hr x hx => ?_
    obtain ⟨j, hj, rfl⟩ := List.mem_iff_getElem.1 hr
    have hjL : j < L.length := by rwa [marks2_len] at hj
    rw [marks2_get hjL] at hx
    have := hpl j (by omega)
    have := h.small _ (List.getElem_mem hjL)
    exact marks_I64 (by omega) (by omega) x hx

theorem heldIntSS_ok {w : World} {s : Sl} {L : List (List Int)} (k : Int) (h : R w s (marks2 k L)) (h0 : 0 ≤ k) (h1 : k ≤ 1125899906842624000) (hl : L.length ≤ 1048576) (hll : ∀ r ∈ L, r.length ≤ 1048576) :
    Calls Tryz.prog F.l_heldIntSS #[s.v, .int .i64 k] w (Ret [.at (.int .i64)] fun (r : Int) w' => r = k + pre L L.length ∧ w = w') := by
  refine C_l_heldIntSS ?_
  unfold V_l_heldIntSS
  rw [h.len, marks2_len]
  have hpl := fun i hi => pre_le hll i hi
  refine ⟨IN2 L.length fun i r w' => r = k + pre L i ∧ w = w', MN2 L.length, IN2_zero ⟨by simp [pre], rfl⟩, ?_⟩
  rintro _ _ w1 ⟨i, rfl, hi, rfl, rfl⟩
  intros
  refine cond_dec (fun hlt => ?_) (fun hge => ?_)
  · have hiL : i < L.length := by omega
    refine h.ixL (by rw [marks2_len]; exact hiL) fun p r hr hc => LD_sl hc ?_
    rw [marks2_get hiL] at hr
    have hp := hpl i (by omega)
    have hrl := hll _ (List.getElem_mem hiL)
    refine call (heldIntS_ok (k + pre L i) hr.any (by omega) (by omega) hrl) ?_
    rintro r _ ⟨rfl, rfl⟩
    refine cond_df (by omega) ?_
    exact IN2_next (by omega) hiL ⟨by rw [pre_succ hiL]; omega, rfl⟩
  · have : i = L.length := by omega
    subst this
    exact ⟨rfl, rfl⟩

theorem mintss_of {w : World} {base : Nat} {s : Sl} {L : List (List Int)} (h : Own2 w base T.t_int T.t_sl_int s L) (hl : L.length ≤ 1048576) (hll : ∀ r ∈ L, r.length ≤ 1048576) : MIntSS w s base w.heap.size := by
  obtain ⟨ss, h1, h2, h3⟩ := h
  refine ⟨ss, h1, by omega, fun r hr => ?_⟩
  obtain ⟨i, hi, rfl⟩ := List.mem_iff_getElem.1 hr
  have hiL : i < L.length := by omega
  have hO := h3 i ss[i] L[i] (by simp [hi]) (by simp [hiL])
  refine ⟨mint_of hO (hll _ (List.getElem_mem hiL)), fun b hb he => ?_⟩
  obtain ⟨c1, e1⟩ := hO.type (blkOf_own hO hb)
  obtain ⟨c2, e2⟩ := h1.type he
  rw [e1] at e2
  exact absurd (Obj.cells.inj (Option.some.inj e2)).2.1 (by decide)

theorem MIntSS.chg {w w' : World} {s : Sl} {lo hi : Nat} (h : MIntSS w s lo hi) (hS : Shp w w') {l2 h2 : Nat} (hC : Chg w w' (fun b => l2 ≤ b ∧ b < h2)) (hlo : h2 ≤ lo) : MIntSS w' s lo hi := by
  obtain ⟨ss, h1, h3, h4⟩ := h.ex
  exact ⟨ss, h1.chg hC fun b hb hD => by have := (h1.blk b hb).1; have := hD.2; omega, h3, fun r hr => ⟨(h4 r hr).1.shp hS, (h4 r hr).2⟩⟩
theorem MNet.chg {w w' : World} {x y z : Sl} {lo hi : Nat} (h : MNet w x y z lo hi) (hS : Shp w w') {l2 h2 : Nat} (hC : Chg w w' (fun b => l2 ≤ b ∧ b < h2)) (hlo : h2 ≤ lo) : MNet w' x y z lo hi := by
  obtain ⟨⟨ss, h1, h3, h4⟩, h5, h6⟩ := h
  exact ⟨⟨ss, h1.chg hC fun b hb hD => by have := (h1.blk b hb).1; have := hD.2; omega, h3, fun r hr => ⟨(h4 r hr).1.shp hS, (h4 r hr).2⟩⟩, h5.shp hS, h6.shp hS⟩

theorem MIntSS.ext {w w' : World} {s : Sl} {lo hi : Nat} (h : MIntSS w s lo hi) (hE : Ext w w') : MIntSS w' s lo hi := by
  obtain ⟨ss, h1, h3, h4⟩ := h.ex
  exact ⟨ss, h1.ext hE, h3, fun r hr => ⟨(h4 r hr).1.ext hE, (h4 r hr).2⟩⟩

theorem markIntSS_ok {w : World} {s : Sl} {lo hi : Nat} (h : MIntSS w s lo hi) (k : Int) (h0 : 0 ≤ k) (h1 : k ≤ 1125899906842624000) :
    Calls Tryz.prog F.l_markIntSS #[s.v, .int .i64 k] w (Ret [.at (.int .i64)] fun (r : Int) w' => 0 ≤ r ∧ r ≤ k + 1099511627776 ∧ Shp w w' ∧ Chg w w' (fun b => lo ≤ b ∧ b < hi)) := by
  obtain ⟨ss, hO, hl, hr⟩ := h.ex
  refine C_l_markIntSS ?_
  unfold V_l_markIntSS
  rw [hO.1]
  refine ⟨IN2 ss.length fun i r w' => 0 ≤ r ∧ r ≤ k + 1048576 * i ∧ Shp w w' ∧ Chg w w' (fun b => (lo ≤ b ∧ b < hi) ∧ s.v.ownBlock ≠ some b), MN2 ss.length, IN2_zero ⟨by omega, by omega, Shp.refl _, Chg.refl _ _⟩, ?_⟩
  rintro x _ w1 ⟨i, rfl, hi', hx0, hx1, hS, hC⟩
  intros
  refine cond_dec (fun hlt => ?_) (fun hge => ?_)
  · have hi2 : i < ss.length := by omega
    have hO1 : OwnL w1 lo T.t_sl_int s ss := hO.chg hC fun b hb hD => hD.2 hb
    refine (hO1.rep fun _ _ => trivial).ix (n := 1) rfl (by omega) (by omega) fun p cs hrep hc => ?_
    simp only [Int.toNat_natCast] at hrep
    have hcs : cs = [ss[i].v] := hrep
    subst hcs
    refine LD_sl (hc 0 _ rfl) ?_
    obtain ⟨hm, hb⟩ := hr _ (List.getElem_mem hi2)
    have hml := hm.len
    refine call (markIntS_wr (hm.wr.shp hS) x hx0 (by omega) hm.len) ?_
    rintro r w2 ⟨rfl, hS2, hC2⟩
    exact IN2_next (by omega) hi2 ⟨by omega, by omega, hS.trans hS2, hC.trans (hC2.mono fun b hb' => ⟨hm.blk b hb', hb b hb'⟩)⟩
  · have : i = ss.length := by omega
    subst this
    exact ⟨hx0, by omega, hS, hC.mono fun b hb => hb.1⟩

end Go.Proofs.YtjfodknpphhajaaGreat
