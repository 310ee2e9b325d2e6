/- Own texts, merged: ElimS2, ElimE, Digits, RDel, Elim4, ElimS3, Elim5, ElimN, Stable, Dist, Far, Dom, ConfMapPure, ConfMap, Pull1, Pull2. -/
import Derived.Test.YtndebacmnpghkaaGreatM5
import Derived.Ground.Names2Prog
import Derived.Shelf.Slices.Delete
import Derived.Ground.SlsfProg
import Derived.Test.YtndebacmnpghkaaGreatProg
set_option linter.unusedVariables false
section
/- Lists that are inserted, problems of sets, the edge step: the reference. -/
namespace Go.Proofs.YtndebacmnpghkaaGreat
open Go.GX Go.RowKit
set_option maxRecDepth 100000

/-- Slices that read as lists, in blocks from a number on. -/
def Al (w : World) (base : Nat) (ss : List Sl) (L : List (List Int)) : Prop := ss.length = L.length ∧ ∀ i (h1 : i < ss.length) (h2 : i < L.length), SlR (fun b => base ≤ b) w ss[i] L[i]

theorem Al.ext {w w' : World} {base : Nat} {ss : List Sl} {L : List (List Int)} (h : Al w base ss L) (hE : Ext w w') : Al w' base ss L := ⟨h.1, fun i h1 h2 => (h.2 i h1 h2).ext hE⟩
theorem Al.keep {w w' : World} {base : Nat} {ss : List Sl} {L : List (List Int)} (h : Al w base ss L) {g : Option Nat} (hs : Step w w' g) (hg : ∀ k, g = some k → k < base) : Al w' base ss L := ⟨h.1, fun i h1 h2 => (h.2 i h1 h2).stepD hs fun b hb he => by have := hg b he; omega⟩

theorem al_insert {w : World} {base : Nat} {ss : List Sl} {L : List (List Int)} {x : Sl} {xl : List Int} (h : Al w base ss L) (hx : SlR (fun b => base ≤ b) w x xl) {k : Nat} (hk : k ≤ L.length) : Al w base (ss.take k ++ [x] ++ ss.drop k) (L.take k ++ [xl] ++ L.drop k) := by
  have hl := h.1
  refine ⟨by simp; omega, fun i h1 h2 => ?_⟩
  simp only [List.length_append, List.length_take, List.length_cons, List.length_nil, List.length_drop] at h1 h2
  simp only [List.append_assoc, List.singleton_append]
  by_cases h3 : i < k
  · rw [List.getElem_append_left (by simp; omega), List.getElem_append_left (by simp; omega)]
    simp only [List.getElem_take]
    exact h.2 i (by omega) (by omega)
  · rw [List.getElem_append_right (by simp; omega), List.getElem_append_right (by simp; omega)]
    simp only [List.length_take, Nat.min_eq_left hk, Nat.min_eq_left (show k ≤ ss.length by omega)]
    by_cases h4 : i = k
    · subst h4
      simp only [Nat.sub_self, List.getElem_cons_zero]
      exact hx
    · obtain ⟨j, hj⟩ : ∃ j, i - k = j + 1 := ⟨i - k - 1, by omega⟩
      simp only [hj, List.getElem_cons_succ, List.getElem_drop]
      exact h.2 (k + j) (by omega) (by omega)

theorem insert_rise {L : List (List Int)} {x : List Int} (hr : L.Pairwise fun a b => cmpL a b < 0) {k : Nat} (hk : k ≤ L.length) (hlt : ∀ j (hj : j < L.length), j < k → cmpL L[j] x < 0) (hge : ∀ h : k < L.length, cmpL x L[k] < 0) : (L.take k ++ [x] ++ L.drop k).Pairwise fun a b => cmpL a b < 0 := by
  have hx : ∀ y ∈ L.drop k, cmpL x y < 0 := fun y hy => by
    obtain ⟨j, hj, rfl⟩ := List.mem_iff_getElem.1 hy
    simp only [List.length_drop] at hj
    rw [List.getElem_drop]
    have h1 := hge (by omega)
    by_cases h0 : j = 0
    · subst h0; simpa using h1
    · exact cmpL_trans h1 (List.pairwise_iff_getElem.1 hr k (k + j) (by omega) (by omega) (by omega))
  have ht : ∀ y ∈ L.take k, cmpL y x < 0 := fun y hy => by
    obtain ⟨j, hj, rfl⟩ := List.mem_take_iff_getElem.1 hy
    exact hlt j (by omega) (by omega)
  have hL : (L.take k ++ L.drop k).Pairwise fun a b => cmpL a b < 0 := by rw [List.take_append_drop]; exact hr
  rw [List.pairwise_append] at hL
  rw [List.append_assoc, List.pairwise_append]
  refine ⟨hL.1, ?_, fun a ha b hb => ?_⟩
  · rw [List.singleton_append, List.pairwise_cons]
    exact ⟨hx, hL.2.1⟩
  · rcases List.mem_append.1 hb with h1 | h1
    · rw [List.mem_singleton.1 h1]; exact ht a ha
    · exact hL.2.2 a ha b h1

theorem insert_mem {L : List (List Int)} {x y : List Int} {k : Nat} : y ∈ L.take k ++ [x] ++ L.drop k ↔ y ∈ L ∨ y = x := by
  have h1 : y ∈ L ↔ y ∈ L.take k ∨ y ∈ L.drop k := by
    conv => lhs; rw [← List.take_append_drop k L]
    exact List.mem_append
  rw [List.mem_append, List.mem_append, List.mem_singleton, h1]
  constructor
  · rintro ((h | h) | h)
    · exact .inl (.inl h)
    · exact .inr h
    · exact .inl (.inr h)
  · rintro ((h | h) | h)
    · exact .inl (.inl h)
    · exact .inr h
    · exact .inl (.inr h)

theorem all_succ2 {L : List (List Int)} {xl : List Int} {k : Nat} (h : ∀ j (hj : j < L.length), j < k → cmpL L[j] xl < 0) (hk : k < L.length) (hx : cmpL L[k] xl < 0) : ∀ j (hj : j < L.length), j < k + 1 → cmpL L[j] xl < 0 := fun j hj hjk => by
  by_cases he : j = k
  · subst he; exact hx
  · exact h j hj (by omega)

/-- What inserting makes of a list. -/
def Ins (w : World) (base : Nat) (L : List (List Int)) (xl : List Int) (r : Sl) (w' : World) : Prop :=
  Ext w w' ∧ ∃ ss' L', OwnL w' base T.t_sl_int r ss' ∧ Al w' base ss' L' ∧ (L'.Pairwise fun a b => cmpL a b < 0) ∧ (∀ y, y ∈ L' ↔ y ∈ L ∨ y = xl) ∧ L'.length ≤ L.length + 1

theorem prInsert_ok {w : World} {base : Nat} {s x : Sl} {ss : List Sl} {L : List (List Int)} {xl : List Int} {c : Int} (h : OwnL w base T.t_sl_int s ss) (ha : Al w base ss L) (hx : SlR (fun b => base ≤ b) w x xl) (hr : L.Pairwise fun a b => cmpL a b < 0)
    (hL : ∀ r ∈ L, r.length = xl.length ∧ AllIn r 0 c) (hxc : AllIn xl 0 c) (hc : c ≤ 1000) (hl : L.length ≤ 1000000) (hb : base ≤ w.heap.size) :
    Calls Tryz.prog F.s_prInsert #[s.v, x.v] w (Ret [.at .sl] (Ins w base L xl)) := by
  refine C_s_prInsert ?_
  unfold V_s_prInsert
  have hls := ha.1
  have hR : R w s L := h.rows ha.1 (fun i h1 h2 => (ha.2 i h1 h2).any) (fun _ _ => trivial)
  have hS : R w s ss := (h.rep fun _ _ => trivial).any
  have k4 : ∀ {w1 : World} (k : Nat), Ext w w1 → k ≤ L.length → (∀ j (hj : j < L.length), j < k → cmpL L[j] xl < 0) → (∀ hk : k < L.length, cmpL xl L[k] < 0) → V_s_prInsert_k4 s x (Ins w base L xl) (k : Int) w1 := fun {w1} k hE1 hk hlt hge => by
    unfold V_s_prInsert_k4
    refine RUN_lit0 (α := Sl) slt_rows fun e w2 hE2 hO2 => ?_
    have hE12 := hE1.trans hE2
    refine SlR.take (hS.ext hE12) (i := k) (by omega) rfl fun s1 hs1 => ?_
    have hz := hE12.size_le
    have hz1 := hE1.size_le
    have hz2 := hE2.size_le
    have hh1 : (ss.take k).length ≤ k := by rw [List.length_take]; omega
    refine RUN_append (α := Sl) slt_rows hO2 (by omega) hs1.any (by simp; omega) (by simp [maxLen]; omega) fun a w3 hO3 hs3 => ?_
    have hE3 : Ext w1 w3 := hs3.ext0 hE2 fun k hk => (hO2.blk k hk).1
    refine RUN_lit1 (α := Sl) slt_rows x rfl (by decide) fun y w4 hE4 hO4 => ?_
    have hE14 := hE3.trans hE4
    have hz4 := hE14.size_le
    refine RUN_append (α := Sl) slt_rows (hO3.ext hE4) (by omega) (hO4.rep fun _ _ => trivial).any (by simp; omega) (by simp [maxLen]; omega) fun a2 w5 hO5 hs5 => ?_
    have hE5 : Ext w1 w5 := hs5.ext0 hE14 fun k hk => ((hO3.ext hE4).blk k hk).1
    have hz5 := hE5.size_le
    refine slr_drop (hS.ext (hE1.trans hE5)) (i := k) (by omega) rfl fun s2 hs2 => ?_
    refine RUN_append (α := Sl) slt_rows hO5 (by omega) hs2.any (by simp; omega) (by simp [maxLen]; omega) fun a3 w6 hO6 hs6 => ?_
    have hE6 : Ext w1 w6 := hs6.ext0 hE5 fun k hk => (hO5.blk k hk).1
    have hE06 := hE1.trans hE6
    refine ⟨hE06, ss.take k ++ [x] ++ ss.drop k, L.take k ++ [xl] ++ L.drop k, ?_, al_insert (ha.ext hE06) (hx.ext hE06) hk, insert_rise hr hk hlt hge, fun y => insert_mem, by simp; omega⟩
    have := hO6.low (base' := base) (by omega)
    simpa using this
  have hRl := hR.len
  rw [hRl]
  have k1 : ∀ {w1 : World} (k : Nat), Ext w w1 → k ≤ L.length → (∀ j (hj : j < L.length), j < k → cmpL L[j] xl < 0) → (∀ hk : k < L.length, ¬ cmpL L[k] xl < 0) → V_s_prInsert_k1 s x (Ins w base L xl) (k : Int) w1 := fun {w1} k hE1 hk hlt hge => by
    unfold V_s_prInsert_k1
    rw [hRl]
    refine cond_dec (fun hlt2 => ?_) (fun hge2 => k4 k hE1 hk hlt fun h => absurd h (by omega))
    have hk' : k < L.length := by omega
    refine (hR.ext hE1).ixL hk' fun q r hRr hc => LD_sl hc ?_
    refine call (l1Same_ok hRr.any (hx.any.ext hE1)) ?_
    rintro _ w2 ⟨rfl, hE2⟩
    have hE02 := hE1.trans hE2
    refine cond_dec (fun heq => ?_) (fun hne => k4 k hE02 hk hlt fun _ => ?_)
    · refine ⟨hE02, ss, L, h.ext hE02, ha.ext hE02, hr, fun y => ⟨fun hy => .inl hy, ?_⟩, by omega⟩
      rintro (hy | rfl)
      · exact hy
      · rw [← heq]; exact List.getElem_mem hk'
    · have h1 := hge hk'
      have h2 := cmpL_neg L[k] xl
      rcases Int.lt_or_eq_of_le (show cmpL xl L[k] ≤ 0 by omega) with h3 | h3
      · exact h3
      · exact absurd (cmpL_zero.1 h3).symm hne
  refine ⟨IN L.length fun k w' => Ext w w' ∧ ∀ j (hj : j < L.length), j < k → cmpL L[j] xl < 0, MN L.length, IN_zero ⟨Ext.refl _, fun j _ h0 => absurd h0 (by omega)⟩, ?_⟩
  rintro _ w1 ⟨k, rfl, hk, hE1, hI⟩
  intros
  refine cond_dec (fun hlt => ?_) (fun hge => k1 k hE1 hk hI fun h => absurd h (by omega))
  have hk' : k < L.length := by omega
  have hLk := hL _ (List.getElem_mem hk')
  refine (hR.ext hE1).ixL hk' fun q r hRr hcell => LD_sl hcell ?_
  refine call (prOrder_ok hRr.any (hx.any.ext hE1) hLk.1 hc hLk.2 hxc) ?_
  rintro _ _ ⟨rfl, rfl⟩
  refine cond_dec (fun hlt2 => ?_) (fun hge2 => k1 k hE1 hk hI fun _ => hge2)
  exact IN_next hR.le hk' ⟨hE1, all_succ2 hI hk' hlt2⟩

/-! ### Problems of sets -/

theorem rise_byte_len {m : List Int} (hr : m.Pairwise (· < ·)) (hb : ∀ x ∈ m, ∃ k : Nat, x = k ∧ k < 256) : m.length ≤ 256 := by
  have hB : Byte [m] := fun l hl x hx => by rw [List.mem_singleton.1 hl] at hx; exact hb x hx
  have : m = setsOf [m] := setsOf_eq hB hr fun x => by simp
  rw [this]
  exact setsOf_len _

def madeP (p : Prob) (e : Bool) (L : List (List Int)) (k : Nat) : Prob :=
  bif e then ⟨((setsOf L).length : Nat), p.degree, someOf (nodeB p) (setsOf L) p.degree.toNat, ownOf L k⟩ else ⟨((setsOf L).length : Nat), p.degree, ownOf L k, someOf (nodeB2 p) (setsOf L) 2⟩

theorem own_I64 {n k : Nat} (hn : n ≤ 256) (f : List Int → Bool) : ∀ r ∈ (msets n k).filter f, ∀ x ∈ r, I64 x := fun r hr x hx => by
  have := (mem_msets.1 (List.mem_filter.1 hr).1).labs x hx
  unfold I64; omega

theorem elMade_ok {w : World} {c d s : Sl} {p : Prob} {L : List (List Int)} {k : Nat} (e : Bool) (h : RProb w c d p) (hg : PGood p) (hL : R w s L) (hB : Byte L) (hk : ∀ r ∈ L, r.length = k) (hk4 : k ≤ 4) (hl : L.length ≤ 262144) :
    Calls Tryz.prog F.s_elMade #[.agg #[.int .i64 p.labels, .int .i64 p.degree, c.v, d.v], s.v, .bool e] w (Ret [.agg [.int .i64, .int .i64, .sl, .sl], .at .sl, .at .bool] (StIs w (madeP p e L k) (1 ≤ (setsOf L).length ∧ (setsOf L).length ≤ 8) (setsOf L))) := by
  refine C_s_elMade ?_
  unfold V_s_elMade
  refine NEW_intro fun pp w1 hp1 hs1 hE1 hb1 => NEW_intro fun px w2 hp2 hs2 hE2 hb2 => ?_
  have hE := hE1.trans hE2
  replace h := h.ext hE
  replace hL := hL.ext hE
  replace hb1 := hb1.ext hE2
  have h64 := flat_okII hL
  have hzE := hE.size_le
  have hd := hg.deg
  rw [hL.len]
  let D : Nat → Prop := fun b => w2.heap.size ≤ b
  refine ⟨IN2 L.length fun i (x : Sl) w' => Ext w2 w' ∧ ∃ m, SlR D w' x m ∧ m.Pairwise (· < ·) ∧ ∀ y, y ∈ m ↔ ∃ l ∈ L.take i, y ∈ l, MN2 L.length, IN2_zero ⟨Ext.refl _, [], (OwnL.nil w2 w2.heap.size T.t_int).rep (by simp), List.Pairwise.nil, by simp⟩, ?_⟩
  rintro x _ w3 ⟨i, rfl, hi, hE3, m, hm, hmr, hmm⟩
  intros
  refine cond_dec (fun hlt => ?_) (fun hge => ?_)
  · have hi' : i < L.length := by omega
    refine (hL.ext hE3).ixL hi' fun q row hrow hc => LD_sl hc ?_
    rw [hrow.len]
    refine ⟨IN2 L[i].length fun j (x : Sl) w' => Ext w3 w' ∧ ∃ m, SlR D w' x m ∧ m.Pairwise (· < ·) ∧ ∀ y, y ∈ m ↔ (∃ l ∈ L.take i, y ∈ l) ∨ y ∈ L[i].take j, MN2 L[i].length, IN2_zero ⟨Ext.refl _, m, hm, hmr, by simpa using hmm⟩, ?_⟩
    rintro x' _ w4 ⟨j, rfl, hj, hE4, m', hm', hmr', hmm'⟩
    intros
    refine cond_dec (fun hlt2 => ?_) (fun hge2 => ?_)
    · have hj' : j < L[i].length := by omega
      refine (hrow.ext hE4).ixI hj' fun q _ hc => LD_int hc ?_
      have hbm : ∀ y ∈ m', ∃ k : Nat, y = k ∧ k < 256 := fun y hy => by
        rcases (hmm' y).1 hy with ⟨l, hl1, hl2⟩ | h1
        · exact hB l (List.mem_of_mem_take hl1) y hl2
        · exact hB _ (List.getElem_mem hi') y (List.mem_of_mem_take h1)
      have hml := rise_byte_len hmr' hbm
      refine call (l1Put_D hm' (by omega) hmr' (h64 _ (List.getElem_mem hi') _ (List.getElem_mem hj'))) ?_
      rintro r w5 ⟨hE5, m5, hm5, hmr5, hmm5, _⟩
      have hz4 := (hE3.trans hE4).size_le
      refine IN2_next hrow.le hj' ⟨hE4.trans hE5, m5, hm5.weak (fun b hb _ => ?_) RepP.pos, hmr5, fun y => ?_⟩
      · show w2.heap.size ≤ b
        rcases hb with h1 | h1
        · exact h1
        · omega
      · rw [hmm5, hmm', List.take_succ_eq_append_getElem hj', List.mem_append, List.mem_singleton, or_assoc]
    · have : j = L[i].length := by omega
      subst this
      rw [List.take_length] at hmm'
      refine IN2_next hL.le hi' ⟨hE3.trans hE4, m', hm', hmr', fun y => ?_⟩
      rw [hmm', List.take_succ_eq_append_getElem hi']
      simp only [List.mem_append, List.mem_singleton]
      constructor
      · rintro (⟨l, h1, h2⟩ | h1)
        · exact ⟨l, .inl h1, h2⟩
        · exact ⟨_, .inr rfl, h1⟩
      · rintro ⟨l, h1 | rfl, h2⟩
        · exact .inl ⟨l, h1, h2⟩
        · exact .inr h2
  · have : i = L.length := by omega
    subst this
    rw [List.take_length] at hmm
    have hme : m = setsOf L := setsOf_eq hB hmr hmm
    subst hme
    clear hmm
    have hSv : ∀ x ∈ setsOf L, ∃ m : Nat, x = m ∧ m < 256 := byte_sets rfl
    have hSr := setsOf_rise L
    have hSl := setsOf_len L
    have hn64 : ∀ r ∈ L.map (numsOf (setsOf L)), ∀ y ∈ r, I64 y := fun r hr y hy => by
      have := (nums_inM hB hk r hr).labs y hy
      unfold I64; omega
    have hlt2 := hb2.lt
    refine call (l1In_ok _ _ _ _) ?_
    rintro _ _ ⟨rfl, rfl⟩
    rw [hm.len]
    have hz3 := hE3.size_le
    refine cond_not (fun hf => ?_) (fun ht => LD_bi1 (hb1.ext hE3) ?_)
    · refine ST_all (hb2.ext hE3) (one4p 0 0 ⟨none, 0, 0⟩ ⟨none, 0, 0⟩) rfl fun w6 hs6 hz6 hb6 => ?_
      refine LD_iiss (z := ⟨none, 0, 0⟩) (u := ⟨none, 0, 0⟩) hb6 ⟨hs6.ext0 (hE.trans hE3) fun k hk => by cases hk; have := hE1.size_le; omega, .inr ⟨rfl, fun hfew => ?_⟩⟩
      exact inR_false hf ⟨by omega, by omega⟩
    · have hfew := inR_true ht
      refine NEW_ST (one4p (((setsOf L).length : Nat) : Int) p.degree ⟨none, 0, 0⟩ ⟨none, 0, 0⟩) rfl fun pm w9 hpm hE9 hb9 => ?_
      have hlt9 := hb9.lt
      have hE29 := hE3.trans hE9
      have hz9 := hE29.size_le
      have hS9 := (hm.ext hE9).any
      have hL9 := (hL.ext hE29)
      refine ⟨IN2 L.length fun i (x : Sl) w' => Ext w9 w' ∧ ∃ ss' L', OwnL w' w9.heap.size T.t_sl_int x ss' ∧ Al w' w9.heap.size ss' L' ∧ (L'.Pairwise fun a b => cmpL a b < 0) ∧ (∀ y, y ∈ L' ↔ y ∈ (L.take i).map (numsOf (setsOf L))) ∧ L'.length ≤ i, MN2 L.length,
        IN2_zero ⟨Ext.refl _, [], [], OwnL.nil _ _ _, ⟨rfl, fun i h1 => absurd h1 (by simp)⟩, List.Pairwise.nil, by simp, by simp⟩, ?_⟩
      rintro y _ w10 ⟨i, rfl, hi, hE10, ss', L', hO10, hA10, hr10, hm10, hl10⟩
      intros
      have hz10 := hE10.size_le
      refine cond_dec (fun hlt => ?_) (fun hge => ?_)
      · have hi' : i < L.length := by omega
        refine (hL9.ext hE10).ixL hi' fun q row hrow hc => LD_sl hc ?_
        have hrl := hk _ (List.getElem_mem hi')
        refine call (elNumbers_ok (hS9.ext hE10) hrow.any hSr (fun z hz => (mem_setsOf hB).2 ⟨_, List.getElem_mem hi', hz⟩) hSl (by omega)) ?_
        rintro u w11 ⟨hE11, hO11⟩
        have hin : numsOf (setsOf L) L[i] ∈ L.map (numsOf (setsOf L)) := List.mem_map.2 ⟨_, List.getElem_mem hi', rfl⟩
        have hMi := nums_inM hB hk _ hin
        have hu : SlR (fun b => w9.heap.size ≤ b) w11 u (numsOf (setsOf L) L[i]) := (hO11.rep (hn64 _ hin)).weak (fun b hb _ => Nat.le_trans hz10 hb) RepP.pos
        refine call (prInsert_ok (c := 255) (hO10.ext hE11) (hA10.ext hE11) hu hr10 (fun r hr => ?_) (fun z hz => ?_) (by omega) (by omega) (by have := hE11.size_le; omega)) ?_
        · have h1 := (hm10 r).1 hr
          have hM := nums_inM hB hk r (by obtain ⟨l, hl1, rfl⟩ := List.mem_map.1 h1; exact List.mem_map.2 ⟨l, List.mem_of_mem_take hl1, rfl⟩)
          exact ⟨by rw [hM.len, hMi.len], fun z hz => by have := hM.labs z hz; omega⟩
        · have := hMi.labs z hz; omega
        rintro r w12 ⟨hE12, ss2, L2, hO12, hA12, hr12, hm12, hl12⟩
        refine IN2_next hL.le hi' ⟨hE10.trans (hE11.trans hE12), ss2, L2, hO12, hA12, hr12, fun z => ?_, by omega⟩
        rw [hm12, hm10, map_take_succ hi', List.mem_append, List.mem_singleton]
      · have : i = L.length := by omega
        subst this
        rw [List.take_length] at hm10
        have hLe : L' = ownOf L k := confOf_eq hr10 hm10 (nums_inM hB hk)
        subst hLe
        have hY : SlR (fun b => w9.heap.size ≤ b) w10 y (ownOf L k) := hO10.rows hA10.1 hA10.2 (fun b hb => hb)
        have hE0 : Ext w w9 := hE.trans hE29
        have hE310 : Ext w3 w10 := hE9.trans hE10
        have hE010 : Ext w w10 := hE.trans (hE3.trans hE310)
        have hpmne : ∀ b, w9.heap.size ≤ b → b ≠ pm.block := fun b hb he => by omega
        have hppne : pp.block ≠ pm.block := by have := hE1.size_le; omega
        have hpxne : px.block ≠ pm.block := by omega
        have hwpm : w3.heap.size ≤ pm.block := by omega
        have ek : p.degree = ((p.degree.toNat : Nat) : Int) := by omega
        have e2 : (2 : Int) = ((2 : Nat) : Int) := rfl
        cases e with
        | true =>
          refine cond_t rfl ?_
          refine ST_box1 (i := 3) (hb9.ext hE10) (by simp) rfl fun w13 hz13 hk13 hX13 hb13 => ?_
          have hE313 : Ext w3 w13 := hX13 w3 hE310 hwpm
          have hb1' := hb1.ext (hE3.trans hE313)
          refine LD_bs2 hb1' (LD_bi1 hb1' ?_)
          rw [ek]
          refine call (elSome_ok (good := p.nodes) (k := p.degree.toNat) (h.ext (hE3.trans hE313)).nodes (hm.ext hE313).any hSv (by omega) (by omega)) ?_
          rintro r w14 ⟨hE14, hO14⟩
          refine ST_box1 (i := 2) (hb13.ext hE14) (by simp) rfl fun w15 hz15 hk15 hX15 hb15 => ?_
          have hE315 : Ext w3 w15 := hX15 w3 (hE313.trans hE14) hwpm
          refine LD_iiss (z := r) (u := y) hb15 ?_
          refine ST_all (hb2.ext (hE3.trans hE315)) (one4p _ _ _ _) rfl fun w19 hs19 hz19 hb19 => LD_iiss hb19 ?_
          have hYw : SlR (fun b => w9.heap.size ≤ b) w19 y (ownOf L k) := ((((hY.agr fun b hb => hk13 b (hpmne b hb)).ext hE14).agr fun b hb => hk15 b (hpmne b hb)).stepD hs19 fun b hb he => by cases he; omega)
          have hNk : Own2 w19 w13.heap.size T.t_int T.t_sl_int r _ := (hO14.keep fun b hb _ => hk15 b (hpmne b (by omega))).keep fun b hb hlt => hs19.block b hlt (by intro he; cases he; omega)
          have hNw := hNk.repD (own_I64 (by omega) _)
          have hz913 : w9.heap.size ≤ w13.heap.size := by omega
          refine ⟨hs19.ext0 (hE.trans (hE3.trans hE315)) fun k hk => by cases hk; have := hE1.size_le; omega, .inl ⟨rfl, ⟨by omega, by omega⟩, rfl, rfl, NewP.low (base := w2.heap.size) ⟨?_, ?_, hNw.weak (fun b hb _ => by omega) RepP.pos, hYw.weak (fun b hb _ => by omega) RepP.pos, ((hm.ext hE315).stepD hs19 fun b hb he => by cases he; have : w2.heap.size ≤ px.block := hb; omega)⟩ hzE⟩⟩
          · show I64 (((setsOf L).length : Nat) : Int); unfold I64; omega
          · show I64 p.degree; unfold I64; omega
        | false =>
          refine cond_f rfl ?_
          refine ST_box1 (i := 2) (hb9.ext hE10) (by simp) rfl fun w13 hz13 hk13 hX13 hb13 => ?_
          have hE313 : Ext w3 w13 := hX13 w3 hE310 hwpm
          have hb1' := hb1.ext (hE3.trans hE313)
          refine LD_bs3 hb1' ?_
          rw [e2]
          refine call (elSome_ok (good := p.edges) (k := 2) (h.ext (hE3.trans hE313)).edges (hm.ext hE313).any hSv (by omega) (by omega)) ?_
          rintro r w14 ⟨hE14, hO14⟩
          refine ST_box1 (i := 3) (hb13.ext hE14) (by simp) rfl fun w15 hz15 hk15 hX15 hb15 => ?_
          have hE315 : Ext w3 w15 := hX15 w3 (hE313.trans hE14) hwpm
          refine LD_iiss (z := y) (u := r) hb15 ?_
          refine ST_all (hb2.ext (hE3.trans hE315)) (one4p _ _ _ _) rfl fun w19 hs19 hz19 hb19 => LD_iiss hb19 ?_
          have hYw : SlR (fun b => w9.heap.size ≤ b) w19 y (ownOf L k) := ((((hY.agr fun b hb => hk13 b (hpmne b hb)).ext hE14).agr fun b hb => hk15 b (hpmne b hb)).stepD hs19 fun b hb he => by cases he; omega)
          have hNk : Own2 w19 w13.heap.size T.t_int T.t_sl_int r _ := (hO14.keep fun b hb _ => hk15 b (hpmne b (by omega))).keep fun b hb hlt => hs19.block b hlt (by intro he; cases he; omega)
          have hNw := hNk.repD (own_I64 (by omega) _)
          have hz913 : w9.heap.size ≤ w13.heap.size := by omega
          refine ⟨hs19.ext0 (hE.trans (hE3.trans hE315)) fun k hk => by cases hk; have := hE1.size_le; omega, .inl ⟨rfl, ⟨by omega, by omega⟩, rfl, rfl, NewP.low (base := w2.heap.size) ⟨?_, ?_, hYw.weak (fun b hb _ => by omega) RepP.pos, hNw.weak (fun b hb _ => by omega) RepP.pos, ((hm.ext hE315).stepD hs19 fun b hb he => by cases he; have : w2.heap.size ≤ px.block := hb; omega)⟩ hzE⟩⟩
          · show I64 (((setsOf L).length : Nat) : Int); unfold I64; omega
          · show I64 p.degree; unfold I64; omega

end Go.Proofs.YtndebacmnpghkaaGreat
end

section
/- The edge step of problems that are asked for, both sides; what sets there are. -/
namespace Go.Proofs.YtndebacmnpghkaaGreat
open Go.GX Go.RowKit
set_option maxRecDepth 100000

theorem StIs.through {w w1 w2 : World} {q : Prob} {few : Prop} {S : List Int} {x y : Int} {z u a : Sl} {b : Bool} {px : Addr} {Q : Int → Int → Sl → Sl → World → Prop} (h : StIs w1 q few S x y z u a b w2) (hE : Ext w w1) (hb : Box w2 px T.t_i_Problem [.int .i64 0, .int .i64 0, .slice none 0 0, .slice none 0 0]) (h1 : w.heap.size ≤ px.block) (h2 : px.block < w1.heap.size)
    (hQ : ∀ w', StIs w q few S x y z u a b w' → Q x y z u w') : ST px 0 [.int .i64 x, .int .i64 y, z.v, u.v] w2 fun w' => LD [.int .i64, .int .i64, .sl, .sl] px w' fun (x' : Int) (y' : Int) (z' : Sl) (u' : Sl) => Q x' y' z' u' w' := by
  refine ST_all hb (one4p _ _ _ _) rfl fun w3 hs3 hz3 hb3 => LD_iiss hb3 (hQ w3 ?_)
  obtain ⟨hE2, hr⟩ := h
  refine ⟨hs3.ext0 (hE.trans hE2) fun k hk => by cases hk; omega, ?_⟩
  rcases hr with ⟨r1, r2, r3, r4, r5⟩ | hr
  · exact .inl ⟨r1, r2, r3, r4, (r5.step hs3 h2).low hE.size_le⟩
  · exact .inr hr

/-- Zeros in place of a problem. -/
theorem zero_problem {w w2 : World} {px : Addr} {Q : Int → Int → Sl → Sl → World → Prop} (hE : Ext w w2) (hb : Box w2 px T.t_i_Problem [.int .i64 0, .int .i64 0, .slice none 0 0, .slice none 0 0]) (h1 : w.heap.size ≤ px.block)
    (hQ : ∀ w', Ext w w' → Q 0 0 ⟨none, 0, 0⟩ ⟨none, 0, 0⟩ w') : ST px 0 [.int .i64 0, .int .i64 0, .slice none 0 0, .slice none 0 0] w2 fun w' => LD [.int .i64, .int .i64, .sl, .sl] px w' fun (x' : Int) (y' : Int) (z' : Sl) (u' : Sl) => Q x' y' z' u' w' := by
  refine ST_all hb (one4p 0 0 ⟨none, 0, 0⟩ ⟨none, 0, 0⟩) rfl fun w3 hs3 hz3 hb3 => ?_
  exact LD_iiss (z := ⟨none, 0, 0⟩) (u := ⟨none, 0, 0⟩) hb3 (hQ w3 (hs3.ext0 hE fun k hk => by cases hk; omega))

theorem made_edge (p : Prob) : madeP p true (edgeFull p) 2 = edgeP p := rfl
theorem made_node (p : Prob) : madeP p false (nodeFull p) p.degree.toNat = nodeP p := rfl

theorem elEdge_ok {w : World} {c d : Sl} {p : Prob} (h : RProb w c d p) (hg : PGood p) :
    Calls Tryz.prog F.s_elEdge #[.agg #[.int .i64 p.labels, .int .i64 p.degree, c.v, d.v]] w (Ret [.agg [.int .i64, .int .i64, .sl, .sl], .at .sl, .at .bool] (StIs w (edgeP p) (edFew p) (edgeSets p))) := by
  refine C_s_elEdge ?_
  unfold V_s_elEdge
  refine NEW_intro fun pp w1 hp1 hs1 hE1 hb1 => NEW_intro fun px w2 hp2 hs2 hE2 hb2 => ?_
  have hE := hE1.trans hE2
  replace h := h.ext hE
  replace hb1 := hb1.ext hE2
  have hlab := hg.lab
  have htwo := two_lab hg
  have h64e : ∀ r ∈ edgeFull p, ∀ x ∈ r, I64 x := fun r hr x hx => by obtain ⟨m, rfl, hm⟩ := edge_byte hg r hr x hx; unfold I64; omega
  refine ⟨fun (out : Sl) (x : Int) w' => ∃ m : Nat, x = m ∧ 1 ≤ m ∧ m ≤ 2 ^ p.labels.toNat ∧ Ext w2 w' ∧ ∃ ss, RowsD w' w2.heap.size T.t_int T.t_sl_int out (((List.range m).filter (edF p)).map (edG p)) ss, fun _ x _ => 2 ^ p.labels.toNat - x.toNat,
    ⟨1, rfl, by omega, Nat.one_le_two_pow, Ext.refl _, [], by
      have : ((List.range 1).filter (edF p)).map (edG p) = [] := by simp [List.range_succ, edF]
      rw [this]; exact RowsD.nil _ _ _ _⟩, ?_⟩
  rintro out _ w3 ⟨m, rfl, hm1, hm, hE3, ss, hR⟩
  intros
  replace h := h.ext hE3
  replace hb1 := hb1.ext hE3
  replace hb2 := hb2.ext hE3
  have hz2 := hE.size_le
  have hz3 := hE3.size_le
  refine LD_bi0 hb1 ⟨by omega, ?_⟩
  have en : p.labels = ((p.labels.toNat : Nat) : Int) := by omega
  rw [en, shl_one (by omega), Int.toNat_natCast]
  refine cond_dec (fun hlt => ?_) (fun hge => ?_)
  · have hlt' : m < 2 ^ p.labels.toNat := by omega
    have hlen : (((List.range m).filter (edF p)).map (edG p)).length ≤ m := by
      rw [List.length_map]
      have h1 := List.length_filter_le (edF p) (List.range m)
      rwa [List.length_range] at h1
    have hnext : ∀ {w'}, Ext w3 w' → edF p m = false → (∃ m' : Nat, IntKind.i64.wrap ((m : Int) + 1) = m' ∧ 1 ≤ m' ∧ m' ≤ 2 ^ p.labels.toNat ∧ Ext w2 w' ∧ ∃ ss, RowsD w' w2.heap.size T.t_int T.t_sl_int out (((List.range m').filter (edF p)).map (edG p)) ss) ∧ 2 ^ p.labels.toNat - (IntKind.i64.wrap ((m : Int) + 1)).toNat < 2 ^ p.labels.toNat - ((m : Int)).toNat := fun {w'} hE' hf => by
      rw [wrap_of (by omega) (by omega)]
      refine ⟨⟨m + 1, by omega, by omega, hlt', hE3.trans hE', ss, ?_⟩, by omega⟩
      rw [List.range_succ, List.filter_append, List.map_append]
      simpa [hf] using hR.ext hE'
    refine LD_iiss hb1 ?_
    refine call (elNear_ok h hg) ?_
    rintro _ w4 ⟨rfl, hE4⟩
    refine cond_dec (fun hne => LD_iiss (hb1.ext hE4) ?_) (fun h0 => hnext hE4 (by
      have h1 : near p m = 0 := by omega
      simp [edF, h1]))
    refine call (elNear_ok (h.ext hE4) hg) ?_
    rintro _ w5 ⟨rfl, hE5⟩
    have hE35 := hE4.trans hE5
    refine cond_eq (fun heq => ?_) (fun hneq => hnext hE35 (by
      have h1 : near p (near p m) ≠ m := fun h => hneq (by rw [h])
      simp [edF, h1]))
    have hF : edF p m = true := by
      have h1 : near p (near p m) = m := by have : ((near p (near p m) : Nat) : Int) = m := heq; omega
      have h2 : near p m ≠ 0 := by omega
      simp [edF, h1, h2, hm1]
    have hb64 : ∀ x ∈ edG p m, I64 x := fun x hx => by
      have := near_lt hg m
      unfold edG at hx
      rcases List.mem_cons.1 hx with rfl | hx
      · unfold I64; omega
      · rw [List.mem_singleton.1 hx]; unfold I64; omega
    refine RUN_lits slt_int (edG p m) (by simp [edG]) (by simp [edG]) rfl rfl fun x w6 hE6 hO6 => ?_
    have hz5 := hE35.size_le
    refine RUN_lit1 (α := Sl) slt_rows x rfl (by decide) fun y w7 hE7 hO7 => ?_
    have hE37 := (hE35.trans hE6).trans hE7
    have hR7 := hR.ext hE37
    have hz7 := hE37.size_le
    refine RUN_append_rowD slt_rows (by decide) hR7 (by omega) ((hO6.ext hE7).low (by omega)) ((hR.ext hE35).fresh (hO6.ext hE7) (Nat.le_refl _)) hO7 (by omega) (by unfold maxLen; omega) fun s' w8 hR8 hs8 => ?_
    rw [wrap_of (by omega) (by omega)]
    refine ⟨⟨m + 1, by omega, by omega, hlt', hs8.ext0 (hE3.trans hE37) fun k hk => (hR7.own.blk k hk).1, ss ++ [x], ?_⟩, by simp only []; omega⟩
    rw [List.range_succ, List.filter_append, List.map_append]
    simpa [hF] using hR8
  · have : m = 2 ^ p.labels.toNat := by omega
    subst this
    rw [← edgeFull_eq] at hR
    have hel := edge_len hg
    refine LD_iiss hb1 ?_
    refine call (elMade_ok (k := 2) true h hg (hR.rep h64e) (edge_byte hg) edge_two (by omega) (by omega)) ?_
    rintro x y z u a b w4 hst
    rw [made_edge] at hst
    have hlt2 := hb2.lt
    exact StIs.through hst (hE.trans hE3) (hb2.ext hst.1) (by omega) (by omega) fun w' h => h

def edGood (p : Prob) : Prop := PGood p ∧ edFew p

theorem EdgeStep_ok {w : World} {c d : Sl} {p : Prob} (h : RProb w c d p) (hs : SmallP p) :
    Calls Tryz.prog F.i_EdgeStep #[.agg #[.int .i64 p.labels, .int .i64 p.degree, c.v, d.v]] w (Ret [.agg [.int .i64, .int .i64, .sl, .sl], .at .sl, .at .bool] (StIs w (edgeP p) (edGood p) (edgeSets p))) := by
  refine C_i_EdgeStep ?_
  unfold V_i_EdgeStep
  refine NEW_intro fun pp w1 hp1 hs1 hE1 hb1 => NEW_intro fun px w2 hp2 hs2 hE2 hb2 => ?_
  have hE := hE1.trans hE2
  have hz1 := hE1.size_le
  replace h := h.ext hE
  replace hb1 := hb1.ext hE2
  refine LD_iiss hb1 ?_
  refine call (IsProblem_ok h) ?_
  rintro x w3 ⟨hx, hE3⟩
  replace hE := hE.ext hE3
  replace h := h.ext hE3
  replace hb1 := hb1.ext hE3
  replace hb2 := hb2.ext hE3
  refine cond_not (fun hf => ?_) (fun ht => LD_iiss hb1 ?_)
  · exact zero_problem hE hb2 (by omega) fun w' hE' => ⟨hE', .inr ⟨rfl, fun hA => by rw [hx.2 hA.1] at hf; cases hf⟩⟩
  · have hg := hx.1 ht
    refine call (edgeStep_ok h hs hg) ?_
    rintro x y z u a b w4 hst
    have hlt2 := hb2.lt
    have hst' : StIs w3 (edgeP p) (edGood p) (edgeSets p) x y z u a b w4 := ⟨hst.1, by
      rcases hst.2 with ⟨r1, r2, r3⟩ | ⟨r1, r2⟩
      · exact .inl ⟨r1, ⟨hg, r2⟩, r3⟩
      · exact .inr ⟨r1, fun hA => r2 hA.2⟩⟩
    exact StIs.through hst' hE (hb2.ext hst.1) (by omega) hlt2 fun w' h => h


theorem sEdgeStep_ok {w : World} {c d : Sl} {p : Prob} (h : RProb w c d p)  :
    Calls Tryz.prog F.s_EdgeStep #[.agg #[.int .i64 p.labels, .int .i64 p.degree, c.v, d.v]] w (Ret [.agg [.int .i64, .int .i64, .sl, .sl], .at .sl, .at .bool] (StIs w (edgeP p) (edGood p) (edgeSets p))) := by
  refine C_s_EdgeStep ?_
  unfold V_s_EdgeStep
  refine NEW_intro fun pp w1 hp1 hs1 hE1 hb1 => NEW_intro fun px w2 hp2 hs2 hE2 hb2 => ?_
  have hE := hE1.trans hE2
  have hz1 := hE1.size_le
  replace h := h.ext hE
  replace hb1 := hb1.ext hE2
  refine LD_iiss hb1 ?_
  refine call (prGood_ok h) ?_
  rintro x w3 ⟨hx, hE3⟩
  replace hE := hE.ext hE3
  replace h := h.ext hE3
  replace hb1 := hb1.ext hE3
  replace hb2 := hb2.ext hE3
  refine cond_not (fun hf => ?_) (fun ht => LD_iiss hb1 ?_)
  · exact zero_problem hE hb2 (by omega) fun w' hE' => ⟨hE', .inr ⟨rfl, fun hA => by rw [hx.2 hA.1] at hf; cases hf⟩⟩
  · have hg := hx.1 ht
    refine call (elEdge_ok h hg) ?_
    rintro x y z u a b w4 hst
    have hlt2 := hb2.lt
    have hst' : StIs w3 (edgeP p) (edGood p) (edgeSets p) x y z u a b w4 := ⟨hst.1, by
      rcases hst.2 with ⟨r1, r2, r3⟩ | ⟨r1, r2⟩
      · exact .inl ⟨r1, ⟨hg, r2⟩, r3⟩
      · exact .inr ⟨r1, fun hA => r2 hA.2⟩⟩
    exact StIs.through hst' hE (hb2.ext hst.1) (by omega) hlt2 fun w' h => h


end Go.Proofs.YtndebacmnpghkaaGreat
end

section
/- Numbers read ls lists of digits, completing sets: in plain words. -/
namespace Go.Proofs.YtndebacmnpghkaaGreat
open Go.GX

/-- The first k digits of a number, the lowest one first. -/
def digs (n k x : Nat) : List Int := (List.range k).map fun u => ((x / n ^ u % n : Nat) : Int)

theorem digs_succ (n k x : Nat) : digs n (k + 1) x = digs n k x ++ [((x / n ^ k % n : Nat) : Int)] := by
  unfold digs
  rw [List.range_succ, List.map_append]
  rfl

theorem digs_len (n k x : Nat) : (digs n k x).length = k := by simp [digs]

/-- The number of a list of digits. -/
def valL (n : Nat) : List Int → Nat
  | [] => 0
  | a :: c => a.toNat + n * valL n c

def Dig (n : Nat) (c : List Int) : Prop := ∀ x ∈ c, 0 ≤ x ∧ x < n

theorem valL_lt {n : Nat} : ∀ {c : List Int}, Dig n c → valL n c < n ^ c.length
  | [], _ => by simp [valL]
  | a :: c, h => by
    have h1 := h a (by simp)
    have h2 := valL_lt (c := c) fun x hx => h x (List.mem_cons_of_mem _ hx)
    have h3 : n * (valL n c + 1) ≤ n * n ^ c.length := Nat.mul_le_mul_left n h2
    rw [Nat.mul_add, Nat.mul_one] at h3
    have h4 : n ^ (a :: c).length = n * n ^ c.length := by rw [List.length_cons, Nat.pow_succ, Nat.mul_comm]
    rw [valL, h4]
    omega

theorem valL_digit {n : Nat} (hn : 0 < n) : ∀ {c : List Int}, Dig n c → ∀ u (hu : u < c.length), ((valL n c / n ^ u % n : Nat) : Int) = c[u]
  | [], _, u, hu => by simp at hu
  | a :: c, h, 0, _ => by
    have h1 := h a (by simp)
    rw [valL, Nat.pow_zero, Nat.div_one, Nat.add_mul_mod_self_left, Nat.mod_eq_of_lt (by omega)]
    simp
    omega
  | a :: c, h, u + 1, hu => by
    have h1 := h a (by simp)
    have e : valL n (a :: c) / n ^ (u + 1) = valL n c / n ^ u := by
      rw [valL, Nat.pow_succ, Nat.mul_comm (n ^ u) n, ← Nat.div_div_eq_div_mul, Nat.add_mul_div_left _ _ hn, Nat.div_eq_of_lt (show a.toNat < n by omega), Nat.zero_add]
    rw [e]
    simpa using valL_digit hn (c := c) (fun x hx => h x (List.mem_cons_of_mem _ hx)) u (by simpa using hu)

theorem digs_valL {n : Nat} (hn : 0 < n) {c : List Int} (h : Dig n c) : digs n c.length (valL n c) = c := by
  apply List.ext_getElem (by simp [digs])
  intro u h1 h2
  simp only [digs, List.getElem_map, List.getElem_range]
  exact valL_digit hn h u h2

theorem valL_snoc {n : Nat} : ∀ {c : List Int} {a : Int}, valL n (c ++ [a]) = valL n c + a.toNat * n ^ c.length
  | [], a => by simp [valL]
  | b :: c, a => by
    rw [List.cons_append, valL, valL_snoc, valL, List.length_cons, Nat.pow_succ, Nat.mul_add]
    have : n * (a.toNat * n ^ c.length) = a.toNat * (n ^ c.length * n) := by
      rw [Nat.mul_left_comm, Nat.mul_comm n]
    omega

theorem Dig.snoc {n : Nat} {c : List Int} (h : Dig n c) {a : Nat} (ha : a < n) : Dig n (c ++ [(a : Int)]) := fun x hx => by
  rcases List.mem_append.1 hx with h1 | h1
  · exact h x h1
  · rw [List.mem_singleton.1 h1]; omega

theorem Dig.rev {n : Nat} {c : List Int} (h : Dig n c) : Dig n c.reverse := fun x hx => h x (List.mem_reverse.1 hx)

/-! ### Completing -/

/-- The labels that complete each choice from sets, behind what is chosen. -/
def complG (p : Prob) (ms pre : List Int) : Nat := maskOf p.labels.toNat fun b => (prodL (ms.map fun m => labsOf m.toNat)).all fun c => nodeB p (pre ++ c ++ [(b : Int)])

theorem complM_G (p : Prob) (ms : List Int) : complM p ms = (complG p ms [] : Nat) := by
  unfold complM complG
  simp

/-- The same for some labels of the first set. -/
def complH (p : Prob) (rest pre ls : List Int) : Nat := maskOf p.labels.toNat fun b => ls.all fun a => (prodL (rest.map fun m => labsOf m.toNat)).all fun c => nodeB p (pre ++ a :: c ++ [(b : Int)])

theorem complG_cons (p : Prob) (m : Int) (rest pre : List Int) : complG p (m :: rest) pre = complH p rest pre (labsOf m.toNat) := by
  unfold complG complH
  apply maskOf_congr
  intro b _
  rw [Bool.eq_iff_iff, List.map_cons, List.all_eq_true, List.all_eq_true]
  constructor
  · intro h a ha
    rw [List.all_eq_true]
    intro c hc
    exact h (a :: c) (by simp only [prodL, List.mem_flatMap, List.mem_map]; exact ⟨a, ha, c, hc, rfl⟩)
  · intro h e he
    simp only [prodL, List.mem_flatMap, List.mem_map] at he
    obtain ⟨a, ha, c, hc, rfl⟩ := he
    exact List.all_eq_true.1 (h a ha) c hc

theorem complH_nil (p : Prob) (rest pre : List Int) {m : Nat} (hm : m < 2 ^ p.labels.toNat) : m &&& complH p rest pre [] = m := by
  apply Nat.eq_of_testBit_eq
  intro i
  rw [Nat.testBit_and]
  unfold complH
  rw [testBit_maskOf]
  by_cases hi : i < p.labels.toNat
  · simp [hi]
  · rw [Nat.testBit_lt_two_pow (Nat.lt_of_lt_of_le hm (Nat.pow_le_pow_right (by decide) (by omega)))]
    simp

theorem complH_snoc (p : Prob) (rest pre ls : List Int) (a : Int) (m : Nat) : m &&& complH p rest pre (ls ++ [a]) = (m &&& complH p rest pre ls) &&& complG p rest (pre ++ [a]) := by
  apply Nat.eq_of_testBit_eq
  intro i
  rw [Nat.testBit_and, Nat.testBit_and, Nat.testBit_and]
  unfold complH complG
  rw [testBit_maskOf, testBit_maskOf, testBit_maskOf, List.all_append]
  by_cases hi : i < p.labels.toNat
  · simp [hi, Bool.and_assoc]
  · simp [hi]

theorem complG_lt (p : Prob) (ms pre : List Int) : complG p ms pre < 2 ^ p.labels.toNat := maskOf_lt _ _
theorem complH_lt (p : Prob) (rest pre ls : List Int) : complH p rest pre ls < 2 ^ p.labels.toNat := maskOf_lt _ _

theorem full_and {n m : Nat} (hm : m < 2 ^ n) : (2 ^ n - 1) &&& m = m := by
  rw [Nat.and_comm, Nat.and_two_pow_sub_one_eq_mod, Nat.mod_eq_of_lt hm]

/-- The table's entries. -/
def tabM (p : Prob) (x : Nat) : Nat := maskOf p.labels.toNat fun b => nodeB p (digs p.labels.toNat (p.degree.toNat - 1) x ++ [(b : Int)])

theorem complG_end {p : Prob} (hl : 1 ≤ p.labels) {pre : List Int} (hd : Dig p.labels.toNat pre) (hlen : pre.length = p.degree.toNat - 1) : complG p [] pre = tabM p (valL p.labels.toNat pre) := by
  unfold complG tabM
  rw [← hlen, digs_valL (by omega) hd]
  apply maskOf_congr
  intro b _
  simp [prodL]

end Go.Proofs.YtndebacmnpghkaaGreat
end

section
/- Contracts of library functions (the kit's shelf, laid at this program by the kit's own tools, in plain words). -/
namespace Go.Proofs.YtndebacmnpghkaaGreat
open Go.Shelf
def Srt.laysNm223_ren : Go.Shelf.Ren := ⟨fun | 23 => 259 | n => n, fun | 22 => 40 | 3 => 3 | 4 => 4 | 0 => 0 | n => n, fun | n => n⟩
theorem Srt.laysNm223 : Go.Proofs.Lays2.n23 Tryz.prog Srt.laysNm223_ren := {
  mixed := by kernel_rfl
  f23 := Tryz.func259.trans (congrArg some (by kernel_rfl))
  t0 := Tryz.underlying0
  a0 := Tryz.isAgg0
  z0 := Tryz.sizeOf0
  v0 := Tryz.zeroValue0
  t3 := Tryz.underlying3
  a3 := Tryz.isAgg3
  z3 := Tryz.sizeOf3
  v3 := Tryz.zeroValue3
  t4 := Tryz.underlying4
  a4 := Tryz.isAgg4
  z4 := Tryz.sizeOf4
  v4 := Tryz.zeroValue4
  t22 := Tryz.underlying40
  a22 := Tryz.isAgg40
  z22 := Tryz.sizeOf40
  v22 := Tryz.zeroValue40
  i3 := by kernel_rfl }
open Go.RowKit Go.Lib Go.Sort in
/-- slices.Delete at []int: "Delete modifies s in place by removing the elements s[i:j], and returns the modified slice. Delete panics if j > len(s) or s[i:j] is not a valid slice of s. Delete is O(len(s)-i), so if many items must be deleted, it is better to make a single call deleting them all together than to delete one at a time. Delete zeroes the elements s[len(s)-(j-i):len(s)]. If the result is empty, it has the same nilness as s.": FOR i ≤ j ≤ len(s) IT RETURNS THE SLICE CUT TO len(s) - (j - i) ELEMENTS; ITS CELLS HOLD what stood ahead of i, what stood from j on, then j - i zero values; all else is as it was, but for the count of draws. IN THE WORDS OF slices.Sort's CONTRACT ('Holds', 'putRow'). It asks 'zs.length ≤ cap ≤ 2^63 - 1' (every slice's). (Outside i ≤ j ≤ len(s) it panics: no contract here.) (LAID: no walk: one application.) -/
theorem Srt.slices_Delete_int (blk off cap i j : Nat) (zs : List Int) (w : World) (hH : Holds (Value.int .i64) w blk off zs.toArray) (hcap : zs.length ≤ cap) (hm : cap ≤ 9223372036854775807) (hij : i ≤ j) (hj : j ≤ zs.length) :
    Calls Tryz.prog 259 #[.slice (some ⟨blk, off, none⟩) zs.length cap, .int .i64 i, .int .i64 j] w fun e w' => e = .returned (.slice (some ⟨blk, off, none⟩) (zs.length - (j - i)) cap) ∧ ∃ q, w' = putRow (Value.int .i64) (Sort.ahead w q) blk off (zs.take i ++ zs.drop j ++ List.replicate (j - i) 0).toArray := Any.slices_Delete_int Srt.laysNm223 blk off cap i j zs w hH hcap hm hij hj
end Go.Proofs.YtndebacmnpghkaaGreat
end

section
/- Tables of node sets, completing, full lists: the program. -/
namespace Go.GX
open Go.RowKit
theorem LD_ptr {w : World} {a x : Addr} {K : Addr → Prop} (hc : w.cell? a = some (.pointer (some x))) (hk : K x) : LD [.ptr] a w K :=
  ⟨[.pointer (some x)], rfl, fun i v hi => by match i, hi with | 0, hi => simp at hi; subst hi; exact hc, hk⟩
theorem LD_bs4 {w : World} {p : Addr} {t : TypeId} {x : Sl} {v0 v1 v2 v3 : Value} {r : List Value} {K : Sl → Prop} (hb : Box w p t (v0 :: v1 :: v2 :: v3 :: x.v :: r)) (hk : K x) : LD [.sl] (p.add 4) w K := LD_sl (hb.cell (i := 4) rfl) hk
end Go.GX
namespace Go.Proofs.YtndebacmnpghkaaGreat
open Go.GX Go.RowKit
set_option maxRecDepth 100000

/-- What computes with sets of labels of nodes: its table is right. -/
def NS (w : World) (pa : Addr) (p : Prob) (c d : Sl) : Prop := ∃ (af : Sl) (A : List Int), Box w pa T.t_i_nodeSets [.int .i64 p.labels, .int .i64 p.degree, c.v, d.v, af.v] ∧ R w af A ∧ A.length = p.labels.toNat ^ (p.degree.toNat - 1) ∧ ∀ u, u < A.length → A.getD u 0 = (tabM p u : Nat)

theorem NS.ext {w w' : World} {pa : Addr} {p : Prob} {c d : Sl} (h : NS w pa p c d) (hE : Ext w w') : NS w' pa p c d := by
  obtain ⟨af, A, h1, h2, h3⟩ := h
  exact ⟨af, A, h1.ext hE, h2.ext hE, h3⟩

theorem RUN_makeI {x : Int} {n : Nat} (hx : x = (n : Nat)) (hn : n ≤ 1000) {w : World} {K : Sl → World → Prop} (hk : ∀ s w', Ext w w' → OwnL w' w.heap.size T.t_int s (List.replicate n (0 : Int)) → K s w') : RUN Tryz.prog (.at .sl) (Instr.makeSlice T.t_sl_int (.int .i64 x) (.int .i64 x)) w K := by
  subst hx
  exact RUN_make (α := Int) slt_int (d := 0) rfl (by omega) (by unfold maxLen; omega) hk

theorem getD_setI {A : List Int} {k u : Nat} {v : Int} (hk : k < A.length) : (A.set k v).getD u 0 = if u = k then v else A.getD u 0 := by
  by_cases h : u = k
  · subst h; simp [hk]
  · rw [if_neg h]
    simp only [List.getD_eq_getElem?_getD]
    rw [List.getElem?_set_ne (Ne.symm h)]

theorem wrapN {q : Nat} (h : q ≤ 1000000) : IntKind.i64.wrap (q : Int) = q := wrap_of (by omega) (by omega)

theorem newNodeSets_ok {w : World} {c d : Sl} {p : Prob} (h : RProb w c d p) (hs : SmallP p) (hg : PGood p) :
    Calls Tryz.prog F.i_newNodeSets #[.agg #[.int .i64 p.labels, .int .i64 p.degree, c.v, d.v]] w (Ret [.at .ptr] fun (pa : Addr) w' => Ext w w' ∧ NS w' pa p c d) := by
  refine C_i_newNodeSets ?_
  unfold V_i_newNodeSets
  refine NEW_intro fun pp w1 hp1 hs1 hE1 hb1 => LD_bi1 hb1 ?_
  have hlab := hg.lab
  have hd := hg.deg
  have en : p.labels = ((p.labels.toNat : Nat) : Int) := by omega
  have ed : IntKind.i64.wrap (p.degree - 1) = ((p.degree.toNat - 1 : Nat) : Int) := by rw [wrap_of (by omega) (by omega)]; omega
  have hpow : ∀ j, j ≤ 3 → p.labels.toNat ^ j ≤ 512 := fun j hj => by
    have h1 : p.labels.toNat ^ j ≤ 8 ^ j := Nat.pow_le_pow_left (by omega) j
    have h2 : 8 ^ j ≤ 8 ^ 3 := Nat.pow_le_pow_right (by decide) hj
    have h3 : 8 ^ 3 = 512 := by decide
    omega
  generalize hn : p.labels.toNat = n at *
  generalize hk : p.degree.toNat - 1 = k at *
  have hk3 : k ≤ 3 := by omega
  have hn8 : 1 ≤ n ∧ n ≤ 8 := by omega
  rw [ed]
  refine ⟨fun (x y : Int) w' => ∃ i : Nat, y = i ∧ i ≤ k ∧ x = ((n ^ i : Nat) : Int) ∧ w1 = w', fun _ y _ => k - y.toNat, ⟨0, rfl, Nat.zero_le _, rfl, rfl⟩, ?_⟩
  rintro _ _ _ ⟨i, rfl, hi, rfl, rfl⟩
  intros
  refine cond_dec (fun hlt => LD_bi0 hb1 ?_) (fun hge => ?_)
  · have h1 := hpow (i + 1) (by omega)
    have e1 : ((n ^ i : Nat) : Int) * p.labels = ((n ^ (i + 1) : Nat) : Int) := by rw [en, Nat.pow_succ, Int.natCast_mul]
    rw [e1, wrapN (by omega), wrap_of (n := (i : Int) + 1) (by omega) (by omega)]
    exact ⟨⟨i + 1, by omega, by omega, rfl, rfl⟩, by simp only []; omega⟩
  have : i = k := by omega
  subst this
  have hN := hpow i hk3
  intro w3 hE3 _
  have hE13 := hE3
  refine LD_iiss (hb1.ext hE3) ⟨Ext.refl _, ?_⟩
  generalize hNe : n ^ i = N at *
  refine RUN_make (α := Int) slt_int (d := 0) rfl (by omega) (by unfold maxLen; omega) fun af w4 hE4 hO4 => ⟨hE4, ?_⟩
  refine NEW_intro fun px w5 hpx hs5 hE5 hb5 => ⟨hE4.trans hE5, ?_⟩
  have hE35 := hE4.trans hE5
  refine LD_bs4 hb5 ?_
  have hal : af.len = N := by rw [hO4.1]; simp
  rw [hal]
  have hz1 := hE1.size_le
  have hz3 := hE13.size_le
  have hz4 := hE4.size_le
  have hz5 := hE5.size_le
  have haf : ∀ b, oB af b → w3.heap.size ≤ b ∧ b < w4.heap.size := fun b hb => hO4.blk b hb
  refine ⟨IN N fun key w' => Ext w1 w' ∧ w5.heap.size ≤ w'.heap.size ∧ Box w' px T.t_i_nodeSets [.int .i64 p.labels, .int .i64 p.degree, c.v, d.v, af.v] ∧ ∃ A : List Int, OwnL w' w3.heap.size T.t_int af A ∧ A.length = N ∧ (∀ u, u < key → A.getD u 0 = (tabM p u : Nat)) ∧ (∀ u, key ≤ u → u < N → A.getD u 0 = 0) ∧ ∀ x ∈ A, I64 x, MN N,
    IN_zero ⟨hE13.trans hE35, Nat.le_refl _, hb5, List.replicate N 0, hO4.ext hE5, by simp, fun u hu => absurd hu (by omega), fun u _ hu => by simp [hu], by intro x hx; rw [List.eq_of_mem_replicate hx]; unfold I64; omega⟩, ?_⟩
  rintro _ w6 ⟨key, rfl, hkey, hE6, hsz6, hb6, A, hA, hAl, hA1, hA2, hA3⟩
  intros
  refine cond_dec (fun hlt => ?_) (fun hge => ?_)
  · have hkN : key < N := by omega
    refine LD_bi1 (hb1.ext hE6) ?_
    have ek : p.degree = ((i + 1 : Nat) : Int) := by omega
    refine RUN_makeI ek (by omega) fun la w7 hE7 hO7 => ?_
    have hla : ∀ b, oB la b → w6.heap.size ≤ b := fun b hb => (hO7.blk b hb).1
    refine LD_bi1 (hb1.ext (hE6.trans hE7)) ?_
    rw [ed]
    have hz7 := hE7.size_le
    refine ⟨fun (x y : Int) w' => ∃ j : Nat, y = j ∧ j ≤ i ∧ x = ((key / n ^ j : Nat) : Int) ∧ Chg w7 w' (oB la) ∧ ∃ X : List Int, OwnL w' w6.heap.size T.t_int la X ∧ X.length = i + 1 ∧ X.take j = digs n j key, fun _ y _ => i - y.toNat, ⟨0, rfl, Nat.zero_le _, by simp, Chg.refl _ _, _, hO7, by simp, by simp [digs]⟩, ?_⟩
    rintro _ _ w8 ⟨j, rfl, hj, rfl, hC8, X, hX, hXl, hXt⟩
    intros
    have hb18 : Box w8 pp T.t_i_Problem [.int .i64 p.labels, .int .i64 p.degree, c.v, d.v] := (hb1.ext (hE6.trans hE7)).chg hC8 ((hb1.ext (hE6.trans hE7)).notOwn hO7 (by decide))
    refine cond_dec (fun hlt2 => ?_) (fun hge2 => ?_)
    · have hji : j < i := by omega
      refine LD_bi0 hb18 ⟨by omega, ?_⟩
      refine IX_own hX (i := j) (by omega) rfl fun q hq => ?_
      have em : Int.tmod ((key / n ^ j : Nat) : Int) p.labels = ((key / n ^ j % n : Nat) : Int) := by rw [en, Int.ofNat_tmod]
      have edv : Int.tdiv ((key / n ^ j : Nat) : Int) p.labels = ((key / n ^ (j + 1) : Nat) : Int) := by rw [en, ← Int.ofNat_tdiv, Nat.div_div_eq_div_mul, Nat.pow_succ]
      rw [em]
      refine ST_own hX (i := j) (by omega) hq ((key / n ^ j % n : Nat) : Int) rfl fun w9 hX9 hs9 => ?_
      have hb19 := hb18.stepT hX (by decide) hs9
      refine LD_bi0 hb19 ⟨by omega, ?_⟩
      have hdv : key / n ^ (j + 1) ≤ key := Nat.div_le_self _ _
      rw [edv, wrapN (by omega), wrap_of (n := (j : Int) + 1) (by omega) (by omega)]
      refine ⟨⟨j + 1, by omega, by omega, rfl, hC8.trans (.of_step hs9 fun b hb => hb), _, hX9, by simpa using hXl, ?_⟩, by simp only []; omega⟩
      rw [set_take (by omega), hXt, digs_succ]
    · have : j = i := by omega
      subst this
      refine LD_bi0 hb18 ?_
      let f : Nat → Bool := fun b => nodeB p (digs n j key ++ [(b : Int)])
      have htab : tabM p key = maskOf n f := by unfold tabM; rw [hn, hk]
      have hoff : ∀ b, oB af b → ¬ oB la b := fun b h1 h2 => by have := (haf b h1).2; have := hla b h2; omega
      have hA7 : OwnL w8 w3.heap.size T.t_int af A := (hA.ext hE7).chg hC8 hoff
      have hb68 : Box w8 px T.t_i_nodeSets [.int .i64 p.labels, .int .i64 p.degree, c.v, d.v, af.v] := (hb6.ext hE7).chg hC8 ((hb6.ext hE7).notOwn hO7 (by decide))
      have hE18 : Ext w1 w8 := hC8.ext0 (hE6.trans hE7) fun b hb => by have := hla b hb; have := hE6.size_le; omega
      have hz8 := hC8.size
      refine ⟨fun (y : Int) w' => ∃ b : Nat, y = b ∧ b ≤ n ∧ Ext w1 w' ∧ w8.heap.size ≤ w'.heap.size ∧ Box w' px T.t_i_nodeSets [.int .i64 p.labels, .int .i64 p.degree, c.v, d.v, af.v] ∧ (∃ X : List Int, OwnL w' w6.heap.size T.t_int la X ∧ X.length = j + 1 ∧ X.take j = digs n j key) ∧
        ∃ A : List Int, OwnL w' w3.heap.size T.t_int af A ∧ A.length = N ∧ (∀ u, u < key → A.getD u 0 = (tabM p u : Nat)) ∧ A.getD key 0 = (maskOf b f : Nat) ∧ (∀ u, key < u → u < N → A.getD u 0 = 0) ∧ ∀ x ∈ A, I64 x, fun y _ => n - y.toNat,
        ⟨0, rfl, Nat.zero_le _, hE18, Nat.le_refl _, hb68, ⟨X, hX, hXl, hXt⟩, A, hA7, hAl, hA1, by rw [hA2 key (Nat.le_refl _) hkN]; rfl, fun u h1 h2 => hA2 u (by omega) h2, hA3⟩, ?_⟩
      rintro _ w10 ⟨b, rfl, hb, hE10, hsz10, hb10, ⟨X', hX', hXl', hXt'⟩, A', hA', hAl', hA1', hAk', hA2', hA3'⟩
      intros
      refine cond_dec (fun hlt3 => ?_) (fun hge3 => ?_)
      · have hbn : b < n := by omega
        refine LD_bi1 (hb1.ext hE10) ?_
        rw [ed]
        refine IX_own hX' (i := j) (by omega) rfl fun q hq => ?_
        refine ST_own hX' (i := j) (by omega) hq (b : Int) rfl fun w11 hX11 hs11 => ?_
        have hE11 : Ext w1 w11 := hs11.ext0 hE10 fun k hk => by have := (hX'.blk k hk).1; have := hE6.size_le; omega
        have hXe : X'.set j (b : Int) = digs n j key ++ [(b : Int)] := by
          have h1 := set_take (X := X') (k := j) (by omega) (b : Int)
          rw [List.take_of_length_le (by simp; omega), hXt'] at h1
          exact h1
        rw [hXe] at hX11
        have hX64 : ∀ x ∈ digs n j key ++ [(b : Int)], I64 x := fun x hx => by
          rcases List.mem_append.1 hx with h1 | h1
          · obtain ⟨u, _, rfl⟩ := List.mem_map.1 h1
            have : key / n ^ u % n < n := Nat.mod_lt _ (by omega)
            show I64 (((key / n ^ u % n : Nat)) : Int)
            generalize key / n ^ u % n = z at this
            unfold I64; omega
          · rw [List.mem_singleton.1 h1]; unfold I64; omega
        have hla' : ∀ b, oB la b → ¬ oB af b := fun b h1 h2 => hoff b h2 h1
        have hA11 : OwnL w11 w3.heap.size T.t_int af A' := hA'.chg (.of_step hs11 fun k hk => hk) hoff
        have hb11 := hb10.stepT hX' (by decide) hs11
        refine LD_iiss (hb1.ext hE11) ?_
        refine call (node_ok (h.ext (hE1.trans hE11)) hs hg (hX11.rep hX64).any (by simp [digs_len]; omega)) ?_
        rintro x w12 ⟨hx, hE12⟩
        have ex : x = f b := bool_of hx nodeB_iff
        subst ex
        have hsz11 := hs11.size
        have hsz12 := hE12.size_le
        have hXk : ∀ {w'}, OwnL w' w6.heap.size T.t_int la (digs n j key ++ [(b : Int)]) → ∃ X : List Int, OwnL w' w6.heap.size T.t_int la X ∧ X.length = j + 1 ∧ X.take j = digs n j key := fun hO => ⟨_, hO, by simp [digs_len], by rw [List.take_append_of_le_length (by rw [digs_len]; exact Nat.le_refl _), List.take_of_length_le (by rw [digs_len]; exact Nat.le_refl _)]⟩
        refine cond_b (fun ht => ?_) (fun hf => ?_)
        · intro w13 hE13' _
          have hE1213 := hE12.trans hE13'
          have hA13 := hA11.ext hE1213
          refine ⟨fun _ => False, by omega, Chg.refl _ _, Chg.refl _ _, LD_bs4 (hb11.ext hE1213) ⟨Chg.refl _ _, ?_⟩⟩
          refine (hA13.rep hA3').any.ixI (i := key) (by omega) fun q _ hc => ⟨Chg.refl _ _, LD_int hc ⟨Chg.refl _ _, Chg.refl _ _, ?_⟩⟩
          have hAk : A'[key]'(by omega) = (maskOf b f : Nat) := by rw [← hAk']; simp [show key < A'.length by omega]
          rw [hAk, mask_or (by omega)]
          refine IX_own hA13 (i := key) (by omega) rfl fun q hq => ?_
          refine ST_own hA13 (i := key) (by omega) hq ((maskOf b f ||| 2 ^ b : Nat) : Int) rfl fun w14 hA14 hs14 => ?_
          have hE14 : Ext w1 w14 := hs14.ext0 (hE11.trans hE1213) fun k hk => by have := (hA13.blk k hk).1; omega
          have hsz13 := hE13'.size_le
          have hsz14 := hs14.size
          have hnew : maskOf b f ||| 2 ^ b = maskOf (b + 1) f := by rw [maskOf_succ, if_pos ht]
          rw [hnew] at hA14
          rw [wrap_of (by omega) (by omega)]
          refine ⟨⟨b + 1, by omega, by omega, hE14, by omega, (hb11.ext hE1213).stepT hA13 (by decide) hs14, hXk ((hX11.ext hE1213).chg (.of_step hs14 fun k hk => hk) hla'), _, hA14, by simpa using hAl', fun u hu => ?_, ?_, fun u h1 h2 => ?_, fun x hx => ?_⟩, by simp only []; omega⟩
          · rw [getD_setI (by omega), if_neg (by omega)]; exact hA1' u hu
          · rw [getD_setI (by omega), if_pos rfl]
          · rw [getD_setI (by omega), if_neg (by omega)]; exact hA2' u h1 h2
          · rcases List.mem_or_eq_of_mem_set hx with h1 | h1
            · exact hA3' x h1
            · rw [h1]
              have := maskOf_small (n := b + 1) (by omega) f
              unfold I64; omega
        · rw [wrap_of (by omega) (by omega)]
          exact ⟨⟨b + 1, by omega, by omega, hE11.trans hE12, by omega, hb11.ext hE12, hXk (hX11.ext hE12), A', hA11.ext hE12, hAl', hA1', by rw [hAk', maskOf_succ, hf]; simp, hA2', hA3'⟩, by simp only []; omega⟩
      · have : b = n := by omega
        subst this
        refine IN_next (by omega) hkN ⟨hE10, by omega, hb10, A', hA', hAl', fun u hu => ?_, fun u h1 h2 => hA2' u (by omega) h2, hA3'⟩
        by_cases hu2 : u = key
        · subst hu2; rw [hAk', htab]
        · exact hA1' u (by omega)
  · have : key = N := by omega
    subst this
    refine ⟨hE1.trans hE6, af, A, hb6, (hA.rep hA3).any, by rw [hAl, hn, hk, hNe], fun u hu => hA1 u (by omega)⟩

/-! ### Completing -/

theorem sets_labs {p : Prob} (hg : PGood p) {m : Nat} (hm : m < 2 ^ p.labels.toNat) : labsTo m p.labels.toNat = labsOf m := by
  rw [labsOf_eq]
  exact (labsTo_end hm 8 (by have := hg.lab; omega)).symm

theorem pow62 {p : Prob} (hg : PGood p) : 2 ^ p.labels.toNat < 4611686018427387904 := by have := two_lab hg; omega

theorem comp_ok {w0 : World} {c d s : Sl} {p : Prob} {S : List Int} {pa p0 p1 p2 p3 : Addr} {t0 t2 t3 : TypeId} (hg : PGood p) (hS : R w0 s S) (hSl : S.length = p.degree.toNat - 1) (hv : ∀ x ∈ S, ∃ m : Nat, x = m ∧ m < 2 ^ p.labels.toNat)
    (h0 : Box w0 p0 t0 [s.v]) (h2 : Box w0 p2 t2 [.pointer (some pa)]) (h3 : Box w0 p3 t3 [.func (.func F.ptr_i_nodeSets_completing_1) #[] #[.pointer (some p0), .pointer (some p1), .pointer (some p2), .pointer (some p3)]])
    (hD : ∀ w', Chg w0 w' (fun b => b = p1.block) → NS w' pa p c d ∧ R w' s S) (n0 : p0.block ≠ p1.block) (n2 : p2.block ≠ p1.block) (n3 : p3.block ≠ p1.block) :
    ∀ (n k : Nat), k + n = S.length → ∀ (w' : World) (pre : List Int) (m : Nat) (key weight : Int), Chg w0 w' (fun b => b = p1.block) → Box w' p1 T.t_int [.int .i64 m] → m < 2 ^ p.labels.toNat → pre.length = k → Dig p.labels.toNat pre → key = (valL p.labels.toNat pre : Nat) → weight = ((p.labels.toNat ^ k : Nat) : Int) →
      CALLV Tryz.prog (.func (.func F.ptr_i_nodeSets_completing_1) #[] #[.pointer (some p0), .pointer (some p1), .pointer (some p2), .pointer (some p3)]) #[.int .i64 k, .int .i64 key, .int .i64 weight] w' (Ret [] fun w'' => Chg w' w'' (fun b => b = p1.block) ∧ Box w'' p1 T.t_int [.int .i64 ((m &&& complG p (S.drop k) pre : Nat) : Int)]) := by
  have hlab := hg.lab
  have hdeg := hg.deg
  have h62 := pow62 hg
  have nb : ∀ {pa : Addr} {ta : TypeId} {cs : List Value} {w' : World}, Chg w0 w' (fun b => b = p1.block) → Box w0 pa ta cs → pa.block ≠ p1.block → Box w' pa ta cs := fun hC hB hn => hB.chg hC hn
  intro n
  induction n with
  | zero =>
    intro k hk w' pre m key weight hC hb1 hm hpl hdig hkey hwt
    refine CALLV_mk (by kernel_rfl) (C_ptr_i_nodeSets_completing_1 ?_)
    unfold V_ptr_i_nodeSets_completing_1
    refine LD_bs (nb hC h0 n0) ?_
    rw [hS.len]
    refine cond_eq (fun _ => ?_) (fun hne => absurd (by omega) hne)
    intro w1 hE1 _
    have hC1 := hC.trans (Chg.of_ext hE1)
    obtain ⟨⟨af, A, hbA, hRA, hAl, hAt⟩, _⟩ := hD w1 hC1
    have hb11 := hb1.ext hE1
    have hk : pre.length = p.degree.toNat - 1 := by omega
    have hvl := valL_lt hdig
    rw [hk, ← hAl] at hvl
    refine ⟨fun _ => False, fun h => h, LD_int (hb11.cell (i := 0) rfl) (LD_ptr ((nb hC1 h2 n2).cell (i := 0) rfl) ⟨Chg.refl _ _, Chg.refl _ _, Chg.refl _ _, LD_bs4 hbA ⟨Chg.refl _ _, ?_⟩⟩)⟩
    rw [hkey]
    refine hRA.ixI hvl fun q _ hc => ⟨Chg.refl _ _, LD_int hc ⟨Chg.refl _ _, ?_⟩⟩
    have hAv : A[valL p.labels.toNat pre] = (tabM p (valL p.labels.toNat pre) : Nat) := by rw [← hAt _ hvl]; simp [hvl]
    have htl : tabM p (valL p.labels.toNat pre) < 2 ^ p.labels.toNat := maskOf_lt _ _
    rw [hAv, and_nat (by omega) (by omega), ← complG_end hlab.1 hdig hk]
    refine ST_all hb11 (vs := [.int .i64 _]) (by intro v hv; simp at hv; subst hv; rfl) rfl fun w2 hs2 hz2 hb2 => ?_
    refine ⟨(Chg.of_ext hE1).trans (.of_step hs2 fun k hk => by cases hk; rfl), ?_⟩
    rw [List.drop_of_length_le (by omega)]
    exact hb2
  | succ n ih =>
    intro k hk w' pre m key weight hC hb1 hm hpl hdig hkey hwt
    have hkl : k < S.length := by omega
    refine CALLV_mk (by kernel_rfl) (C_ptr_i_nodeSets_completing_1 ?_)
    unfold V_ptr_i_nodeSets_completing_1
    refine LD_bs (nb hC h0 n0) ?_
    rw [hS.len]
    refine cond_eq (fun he => absurd he (by omega)) (fun _ => LD_ptr ((nb hC h2 n2).cell (i := 0) rfl) ?_)
    obtain ⟨⟨af, A, hbA, _, _, _⟩, _⟩ := hD w' hC
    refine LD_bi0 hbA ?_
    obtain ⟨t, ht, htl⟩ := hv _ (List.getElem_mem hkl)
    let H : Nat → Nat := fun i => m &&& complH p (S.drop (k + 1)) pre (labsTo t i)
    have hHlt : ∀ i, H i < 2 ^ p.labels.toNat := fun i => Nat.lt_of_le_of_lt Nat.and_le_left hm
    have hfin : H p.labels.toNat = m &&& complG p (S.drop k) pre := by
      show m &&& complH p (S.drop (k + 1)) pre (labsTo t p.labels.toNat) = _
      rw [sets_labs hg htl, List.drop_eq_getElem_cons hkl, ht, complG_cons, Int.toNat_natCast]
    rw [← hfin]
    refine ⟨fun x w'' => ∃ i : Nat, x = i ∧ i ≤ p.labels.toNat ∧ Chg w' w'' (fun b => b = p1.block) ∧ Box w'' p1 T.t_int [.int .i64 ((H i : Nat) : Int)], fun x _ => p.labels.toNat - x.toNat, ⟨0, rfl, Nat.zero_le _, Chg.refl _ _, ?_⟩, ?_⟩
    · have : H 0 = m := complH_nil p _ _ hm
      rw [this]; exact hb1
    rintro _ w3 ⟨i, rfl, hi, hC3, hb3⟩
    intros
    have hC03 := hC.trans hC3
    refine cond_dec (fun hlt => ?_) (fun hge => ?_)
    · have hil : i < p.labels.toNat := by omega
      refine LD_bs (nb hC03 h0 n0) ?_
      refine (hD w3 hC03).2.ixI hkl fun q _ hc => LD_int hc ⟨by omega, ?_⟩
      rw [ht, shr_set (by omega), bit_test (by omega)]
      have hHi := hHlt i
      have hnext : ∀ {w4 : World}, Chg w' w4 (fun b => b = p1.block) → Box w4 p1 T.t_int [.int .i64 ((H (i + 1) : Nat) : Int)] → (∃ i' : Nat, IntKind.i64.wrap ((i : Int) + 1) = i' ∧ i' ≤ p.labels.toNat ∧ Chg w' w4 (fun b => b = p1.block) ∧ Box w4 p1 T.t_int [.int .i64 ((H i' : Nat) : Int)]) ∧ p.labels.toNat - (IntKind.i64.wrap ((i : Int) + 1)).toNat < p.labels.toNat - ((i : Int)).toNat := fun {w4} h4 hb4 => by
        rw [wrap_of (by omega) (by omega)]
        exact ⟨⟨i + 1, by omega, hil, h4, hb4⟩, by omega⟩
      by_cases hbit : t.testBit i = true
      · rw [if_pos hbit]
        have hH1 : H (i + 1) = H i &&& complG p (S.drop (k + 1)) (pre ++ [(i : Int)]) := by
          show m &&& complH p (S.drop (k + 1)) pre (labsTo t (i + 1)) = _
          rw [labsTo_succ, if_pos hbit]
          exact complH_snoc p _ _ _ _ _
        refine cond_t rfl (LD_int (hb3.cell (i := 0) rfl) ?_)
        refine cond_ne (fun hne => ?_) (fun h0' => ?_)
        · intro w4 hE4 _
          have hC4 := hC3.trans (Chg.of_ext hE4)
          have hC04 := hC.trans hC4
          obtain ⟨⟨af4, A4, hbA4, _, _, _⟩, _⟩ := hD w4 hC04
          refine ⟨fun _ => False, fun h => h, LD_val ((nb hC04 h3 n3).cell (i := 0) rfl) (LD_ptr ((nb hC04 h2 n2).cell (i := 0) rfl) ⟨Chg.refl _ _, Chg.refl _ _, Chg.refl _ _, Chg.refl _ _, LD_bi0 hbA4 ⟨Chg.refl _ _, Chg.refl _ _, ?_⟩⟩)⟩
          have hpk : p.labels.toNat ^ k ≤ 512 ∧ p.labels.toNat ^ (k + 1) ≤ 512 := by
            have a1 : ∀ j, j ≤ 3 → p.labels.toNat ^ j ≤ 512 := fun j hj => by
              have b1 : p.labels.toNat ^ j ≤ 8 ^ j := Nat.pow_le_pow_left (by omega) j
              have b2 : 8 ^ j ≤ 8 ^ 3 := Nat.pow_le_pow_right (by decide) hj
              have b3 : 8 ^ 3 = 512 := by decide
              omega
            exact ⟨a1 k (by omega), a1 (k + 1) (by omega)⟩
          have hdig' := hdig.snoc hil
          have hval : valL p.labels.toNat (pre ++ [(i : Int)]) = valL p.labels.toNat pre + i * p.labels.toNat ^ k := by rw [valL_snoc, hpl, Int.toNat_natCast]
          have hvlt := valL_lt hdig'
          have hlen' : (pre ++ [(i : Int)]).length = k + 1 := by simp [hpl]
          rw [hlen', hval] at hvlt
          have e1 : (i : Int) * weight = ((i * p.labels.toNat ^ k : Nat) : Int) := by rw [hwt]; push_cast; rfl
          have e2 : weight * p.labels = ((p.labels.toNat ^ (k + 1) : Nat) : Int) := by
            have en : p.labels = ((p.labels.toNat : Nat) : Int) := by omega
            rw [hwt, Nat.pow_succ, Int.natCast_mul, ← en]
          have e3 : key + ((i * p.labels.toNat ^ k : Nat) : Int) = ((valL p.labels.toNat (pre ++ [(i : Int)]) : Nat) : Int) := by rw [hkey, hval]; omega
          have hb1' : i * p.labels.toNat ^ k ≤ 1000000 := by omega
          have hb2' : valL p.labels.toNat (pre ++ [(i : Int)]) ≤ 1000000 := by rw [hval]; omega
          rw [e1, wrapN hb1', e3, wrapN hb2', e2, wrapN (by omega), wrap_of (n := (k : Int) + 1) (by omega) (by omega)]
          refine callv (ih (k + 1) (by omega) w4 (pre ++ [(i : Int)]) (H i) _ _ hC04 (hb3.ext hE4) hHi hlen' hdig' rfl rfl) ?_
          rintro w5 ⟨hC5, hb5⟩
          refine hnext (hC4.trans hC5) ?_
          rw [hH1]; exact hb5
        · refine hnext hC3 ?_
          have h0'' : H i = 0 := by have : ((H i : Nat) : Int) = 0 := h0'; omega
          rw [hH1, h0'', Nat.zero_and]
          rw [h0''] at hb3
          exact hb3
      · rw [if_neg hbit]
        refine cond_f rfl (hnext hC3 ?_)
        have hH1 : H (i + 1) = H i := by
          show m &&& complH p (S.drop (k + 1)) pre (labsTo t (i + 1)) = _
          rw [labsTo_succ, if_neg hbit, List.append_nil]
        rw [hH1]; exact hb3
    · have : i = p.labels.toNat := by omega
      subst this
      exact ⟨hC3, hb3⟩

theorem completing_ok {w : World} {c d s : Sl} {p : Prob} {S : List Int} {pa : Addr} (hg : PGood p) (hNS : NS w pa p c d) (hS : R w s S) (hSl : S.length = p.degree.toNat - 1) (hv : ∀ x ∈ S, ∃ m : Nat, x = m ∧ m < 2 ^ p.labels.toNat) :
    Calls Tryz.prog F.ptr_i_nodeSets_completing #[.pointer (some pa), s.v] w (Ret [.at (.int .i64)] fun (x : Int) w' => x = complM p S ∧ Ext w w') := by
  refine C_ptr_i_nodeSets_completing ?_
  unfold V_ptr_i_nodeSets_completing
  have hlab := hg.lab
  have htwo := two_lab hg
  refine NEW_intro fun p2 w1 hp2 hs1 hE1 hb2 => NEW_intro fun p0 w2 hp0 hs2 hE2 hb0 => LD_ptr ((hb2.ext hE2).cell (i := 0) rfl) ?_
  have hE12 := hE1.trans hE2
  obtain ⟨af, A, hbA, _, _, _⟩ := hNS.ext hE12
  refine LD_bi0 hbA ⟨by omega, ?_⟩
  have en : p.labels = ((p.labels.toNat : Nat) : Int) := by omega
  have e1 : IntKind.i64.wrap (shlI .i64 1 p.labels - 1) = ((2 ^ p.labels.toNat - 1 : Nat) : Int) := by
    rw [en, shl_one (by omega), Int.toNat_natCast]
    have := Nat.two_pow_pos p.labels.toNat
    generalize 2 ^ p.labels.toNat = q at htwo this ⊢
    rw [wrap_of (by omega) (by omega)]; omega
  rw [e1]
  refine NEW_ST (zs := [.int .i64 0]) (vs := [.int .i64 _]) (by intro v hv; simp at hv; subst hv; rfl) rfl fun p1 w4 hp1 hE4 hb1 => ?_
  refine NEW_intro fun p3 w5 hp3 hs5 hE5 hb3' => ST_all hb3' (vs := [.func (.func F.ptr_i_nodeSets_completing_1) #[] #[.pointer (some p0), .pointer (some p1), .pointer (some p2), .pointer (some p3)]]) (by intro v hv; simp at hv; subst hv; rfl) rfl fun w6 hs6 hz6 hb3 => ?_
  have hE6 : Ext w4 w6 := hs6.ext0 hE5 fun k hk => by cases hk; omega
  have hE26 := hE4.trans hE6
  have hE06 := hE12.trans hE26
  have hz1 := hE1.size_le
  have hz2 := hE2.size_le
  have hz4 := hE4.size_le
  have hlt1 := hb1.lt
  refine LD_val (hb3.cell (i := 0) rfl) ?_
  have hnew : ∀ {w' : World}, Chg w6 w' (fun b => b = p1.block) → Ext w w' := fun hC => hC.ext0 hE06 fun k hk => by omega
  refine callv (comp_ok (pa := pa) (p1 := p1) hg (hS.ext hE06) hSl hv ((hb0.ext hE4).ext hE6) (((hb2.ext hE2).ext hE4).ext hE6) hb3 (fun w' hC => ⟨hNS.ext (hnew hC), hS.ext (hnew hC)⟩) (by omega) (by omega) (by omega) S.length 0 (by omega) w6 [] (2 ^ p.labels.toNat - 1) _ _ (Chg.refl _ _) (hb1.ext hE6) (Nat.sub_lt (Nat.two_pow_pos _) (by decide)) rfl (fun x hx => by cases hx) rfl (by simp)) ?_
  rintro w7 ⟨hC7, hb7⟩
  rw [List.drop_zero, full_and (complG_lt _ _ _)] at hb7
  refine LD_int (hb7.cell (i := 0) rfl) ⟨?_, hnew hC7⟩
  rw [complM_G]

/-! ### Full lists -/

theorem delete_ok {w : World} {base : Nat} {s : Sl} {l : List Int} (h : OwnL w base T.t_int s l) {i : Nat} (hi : i < l.length) (hl : l.length ≤ 1000) :
    Calls Tryz.prog F.slices_Delete_sl_int_int #[s.v, .int .i64 i, .int .i64 ((i : Int) + 1)] w (Ret [.at .sl] fun (r : Sl) w' => OwnL w' base T.t_int r (l.eraseIdx i) ∧ Step w w' s.v.ownBlock) := by
  rcases h.2.2 with ⟨hv, h0⟩ | ⟨g, cap, cur, hv, hb, hg, hle, hmx, hsz, htake⟩
  · have := h.1; omega
  · have htake' : cur.toList.take l.length = l.map (Value.int .i64) := by rw [← flatI, ← htake, h.1]; simp [Rep.sz]
    have hsv : s.v = .slice (some ⟨g, 0, none⟩) l.length cap := by rw [← h.1]; exact hv
    have hsc : s.a = some ⟨g, 0, none⟩ ∧ s.cap = cap := by simp [Sl.v] at hv; exact ⟨hv.1, hv.2⟩
    rw [hsv]
    have e1 : ((i : Int) + 1) = ((i + 1 : Nat) : Int) := by omega
    rw [e1]
    refine (Srt.slices_Delete_int g 0 cap i (i + 1) l w (holds_of_blockI hg htake') (by rw [← h.1]; exact hle) (by unfold maxLen at hmx; omega) (by omega) (by omega)).mono ?_
    rintro e w' ⟨rfl, n, rfl⟩
    have hgr : Go.Sort.putRow (Value.int .i64) (Go.Sort.ahead w n) g 0 (l.take i ++ l.drop (i + 1) ++ List.replicate (i + 1 - i) 0).toArray = Go.Sort.grow (Go.Sort.putRow (Value.int .i64) (Go.Sort.ahead w n) g 0 (l.take i ++ l.drop (i + 1) ++ List.replicate (i + 1 - i) 0).toArray) #[] := (Go.Sort.grow_empty _).symm
    rw [hgr]
    have hlen : (l.take i ++ l.drop (i + 1) ++ List.replicate (i + 1 - i) (0 : Int)).length = l.length := by simp; omega
    have hown := ownsRow_sortedI (w := w) (base := base) (g := g) (cap := cap) (n := n) (e := T.t_int) (os := #[]) (cur := cur) (ss := l) (ts := l.take i ++ l.drop (i + 1) ++ List.replicate (i + 1 - i) 0) hlen hb hg (by rw [← h.1]; exact hle) hmx hsz
    have hO : OwnL (Go.Sort.grow (Go.Sort.putRow (Value.int .i64) (Go.Sort.ahead w n) g 0 (l.take i ++ l.drop (i + 1) ++ List.replicate (i + 1 - i) 0).toArray) #[]) base T.t_int s (l.take i ++ l.drop (i + 1) ++ List.replicate (i + 1 - i) 0) := by
      refine ⟨by rw [hlen]; exact h.1, ?_⟩
      unfold Go.GX.Own
      rw [h.1, hsv, flatI]
      exact hown
    have hF := hO.front (k := l.length - 1) (by rw [hlen]; omega)
    have he : (l.take i ++ l.drop (i + 1) ++ List.replicate (i + 1 - i) (0 : Int)).take (l.length - 1) = l.eraseIdx i := by
      rw [List.take_append_of_le_length (by simp; omega), List.take_of_length_le (by simp; omega), List.eraseIdx_eq_take_drop_succ]
    rw [he] at hF
    have hrv : (Value.slice (some ⟨g, 0, none⟩) (l.length - (i + 1 - i)) cap) = (⟨s.a, l.length - 1, s.cap⟩ : Sl).v := by
      rw [hsc.1, hsc.2]
      show Value.slice (some ⟨g, 0, none⟩) (l.length - (i + 1 - i)) cap = Value.slice (some ⟨g, 0, none⟩) (l.length - 1) cap
      rw [show l.length - (i + 1 - i) = l.length - 1 by omega]
    rw [hrv]
    exact ⟨hF, Step.of_grown (grownBy_sortedI _)⟩

theorem isFull_ok {w : World} {c d s : Sl} {p : Prob} {l : List Int} {pa : Addr} (hg : PGood p) (hNS : NS w pa p c d) (hl : R w s l) (hll : l.length = p.degree.toNat) (hv : ∀ x ∈ l, ∃ m : Nat, x = m ∧ m < 2 ^ p.labels.toNat) :
    Calls Tryz.prog F.ptr_i_nodeSets_isFull #[.pointer (some pa), s.v] w (Ret [.at .bool] fun (x : Bool) w' => x = fullB p l ∧ Ext w w') := by
  refine C_ptr_i_nodeSets_isFull ?_
  unfold V_ptr_i_nodeSets_isFull
  have hdeg := hg.deg
  have htwo := two_lab hg
  have h64 := flat_ok hl
  rw [hl.len]
  refine ⟨IN l.length fun i w' => Ext w w' ∧ ∀ u, u < i → complM p (l.eraseIdx u) = l.getD u 0, MN l.length, IN_zero ⟨Ext.refl _, fun u hu => absurd hu (by omega)⟩, ?_⟩
  rintro _ w1 ⟨i, rfl, hi, hE1, hI⟩
  intros
  refine cond_dec (fun hlt => ?_) (fun hge => ?_)
  · have hi' : i < l.length := by omega
    intro w2 hE2 _
    have hE12 := hE1.trans hE2
    refine (hl.ext hE12).ixI hi' fun q _ hc => LD_int hc ?_
    refine call (clone_ok (hl.ext hE12) (by omega)) ?_
    rintro x w3 ⟨hE3, hO3⟩
    refine ⟨hE3, ?_⟩
    rw [wrap_of (by omega) (by omega)]
    refine call (delete_ok hO3 hi' (by omega)) ?_
    rintro y w4 ⟨hO4, hs4⟩
    have hE24 : Ext w2 w4 := hs4.ext0 hE3 fun k hk => (hO3.blk k hk).1
    refine ⟨hE24, ?_⟩
    have hsub : ∀ x ∈ l.eraseIdx i, x ∈ l := fun x hx => (List.eraseIdx_sublist l i).subset hx
    refine call (completing_ok hg (hNS.ext (hE12.trans hE24)) (hO4.rep fun x hx => h64 x (hsub x hx)).any (by rw [List.length_eraseIdx_of_lt hi', hll]) fun x hx => hv x (hsub x hx)) ?_
    rintro _ w5 ⟨rfl, hE5⟩
    have hE25 := hE24.trans hE5
    refine ⟨hE25, hE25, ?_⟩
    refine cond_ne (fun hne => ⟨?_, hE12.trans hE25⟩) (fun heq => ?_)
    · have : fullB p l = false := by
        cases hf : fullB p l with
        | false => rfl
        | true =>
          unfold fullB at hf
          rw [List.all_eq_true] at hf
          have := hf i (List.mem_range.2 hi')
          rw [beq_iff_eq] at this
          exact absurd (this.trans (by simp [hi'])) hne
      rw [this]
    · refine ⟨⟨i + 1, by omega, hi', hE12.trans hE25, fun u hu => ?_⟩, by unfold MN; omega⟩
      by_cases hui : u = i
      · subst hui
        have h1 : complM p (l.eraseIdx u) = l[u] := heq
        rw [h1]; simp [hi']
      · exact hI u (by omega)
  · have : i = l.length := by omega
    subst this
    refine ⟨?_, hE1⟩
    symm
    unfold fullB
    rw [List.all_eq_true]
    intro u hu
    rw [beq_iff_eq]
    exact hI u (List.mem_range.1 hu)

theorem nodeFull_conf (p : Prob) : ∀ l ∈ nodeFull p, SetL p.labels.toNat p.degree.toNat l := fun _ hl => (mem_nodeFull.1 hl).1

theorem pow_sets {p : Prob} (hg : PGood p) (hf : ¬ (p.degree = 4 ∧ 6 < p.labels)) : ∀ j, j ≤ p.degree.toNat - 1 → (2 ^ p.labels.toNat - 1) ^ j ≤ 262143 := fun j hj => by
  have hl := hg.lab
  have hd := hg.deg
  by_cases h4 : p.degree = 4
  · have h6 : p.labels.toNat ≤ 6 := by omega
    have h1 : 2 ^ p.labels.toNat ≤ 2 ^ 6 := Nat.pow_le_pow_right (by decide) h6
    have h2 : (2 : Nat) ^ 6 = 64 := by decide
    have h3 : (2 ^ p.labels.toNat - 1) ^ j ≤ 63 ^ j := Nat.pow_le_pow_left (by omega) j
    have h5 : 63 ^ j ≤ 63 ^ 3 := Nat.pow_le_pow_right (by decide) (by omega)
    have h7 : 63 ^ 3 = 250047 := by decide
    omega
  · have h1 := two_lab hg
    have h3 : (2 ^ p.labels.toNat - 1) ^ j ≤ 255 ^ j := Nat.pow_le_pow_left (by omega) j
    have h5 : 255 ^ j ≤ 255 ^ 2 := Nat.pow_le_pow_right (by decide) (by omega)
    have h7 : 255 ^ 2 = 65025 := by decide
    omega

/-- What the program makes of lists of numbers. -/
def fullsOf (p : Prob) (C : List (List Int)) : List (List Int) := (C.filter fun c => decide (complM p (c.map (· + 1)) ≠ 0) && fullB p (c.map (· + 1) ++ [complM p (c.map (· + 1))])).map fun c => sortI (c.map (· + 1) ++ [complM p (c.map (· + 1))])

theorem fulls_mem {p : Prob} {d : Nat} (hd : p.degree.toNat = d + 1) {l : List Int} : l ∈ fullsOf p (msets (2 ^ p.labels.toNat - 1) d) ↔ l ∈ nodeFull p := by
  rw [nodeFull_of hd]
  unfold fullsOf setLists
  rw [List.mem_map]
  constructor
  · rintro ⟨c, hc, rfl⟩
    rw [List.mem_filter, Bool.and_eq_true, decide_eq_true_eq] at hc
    exact ⟨_, List.mem_map.2 ⟨c, hc.1, rfl⟩, hc.2.1, hc.2.2, rfl⟩
  · rintro ⟨c, hc, h0, hf, rfl⟩
    obtain ⟨e, he, rfl⟩ := List.mem_map.1 hc
    exact ⟨e, by rw [List.mem_filter, Bool.and_eq_true, decide_eq_true_eq]; exact ⟨he, h0, hf⟩, rfl⟩

end Go.Proofs.YtndebacmnpghkaaGreat
end

section
/- Tables of node configurations, completing, full lists: the reference. -/
namespace Go.Proofs.YtndebacmnpghkaaGreat
open Go.GX Go.RowKit
set_option maxRecDepth 100000

/-- The table tells what is a node configuration. -/
def TB (w : World) (g : Sl) (p : Prob) : Prop := ∃ G : List Bool, R w g G ∧ G.length = p.labels.toNat ^ p.degree.toNat ∧ ∀ u, u < G.length → G.getD u false = nodeB p (digs p.labels.toNat p.degree.toNat u)

theorem TB.ext {w w' : World} {g : Sl} {p : Prob} (h : TB w g p) (hE : Ext w w') : TB w' g p := by
  obtain ⟨G, h1, h2⟩ := h
  exact ⟨G, h1.ext hE, h2⟩

theorem LD_iisss {w : World} {p : Addr} {t : TypeId} {x y : Int} {z u v : Sl} {r : List Value} {K : Int → Int → Sl → Sl → Sl → Prop} (hb : Box w p t (.int .i64 x :: .int .i64 y :: z.v :: u.v :: v.v :: r)) (hk : K x y z u v) : LD [.int .i64, .int .i64, .sl, .sl, .sl] p w K := by
  refine ⟨[.int .i64 x, .int .i64 y, z.v, u.v, v.v], rfl, fun i v hv => ?_, hk⟩
  match i, hv with
  | 0, hv => exact hb.cell (i := 0) hv
  | 1, hv => exact hb.cell (i := 1) hv
  | 2, hv => exact hb.cell (i := 2) hv
  | 3, hv => exact hb.cell (i := 3) hv
  | 4, hv => exact hb.cell (i := 4) hv
  | i + 5, hv => simp at hv
theorem one5p (x y : Int) (z u v : Sl) : ∀ a ∈ [Value.int .i64 x, .int .i64 y, z.v, u.v, v.v], a.oneCell' = true := by intro a ha; simp at ha; rcases ha with rfl | rfl | rfl | rfl | rfl <;> rfl

theorem dig_of {t n : Nat} (ht : t < 2 ^ n) : ∀ x ∈ labsOf t, ∃ a : Nat, x = a ∧ a < n := fun x hx => by
  obtain ⟨a, rfl, _, hb⟩ := mem_labsOf.1 hx
  refine ⟨a, rfl, ?_⟩
  rcases Nat.lt_or_ge a n with h | h
  · exact h
  · rw [Nat.testBit_lt_two_pow (Nat.lt_of_lt_of_le ht (Nat.pow_le_pow_right (by decide) h))] at hb
    cases hb

theorem rest_ok {p : Prob} (hg : PGood p) : ∀ (n : Nat) {w : World} {z u g s : Sl} {S pre : List Int}, S.length = n → TB w g p → R w s S → pre.length + S.length = p.degree.toNat - 1 → (∀ x ∈ S, ∃ m : Nat, x = m ∧ m < 2 ^ p.labels.toNat) → Dig p.labels.toNat pre →
    Calls Tryz.prog F.s_elTable_rest #[.agg #[.int .i64 p.labels, .int .i64 p.degree, z.v, u.v, g.v], s.v, .int .i64 (valL p.labels.toNat pre.reverse : Nat)] w (Ret [.at (.int .i64)] fun (x : Int) w' => x = (complG p S pre : Nat) ∧ Ext w w')
  | 0, w, z, u, g, s, S, pre, hn, hT, hS, hlen, hv, hd => by
    have hlab := hg.lab
    have hdeg := hg.deg
    have htwo := two_lab hg
    refine C_s_elTable_rest ?_
    unfold V_s_elTable_rest
    refine NEW_intro fun px w1 hpx hs1 hE1 hb1 => ?_
    rw [hS.len]
    refine cond_eq (fun _ => ?_) (fun hne => absurd (by omega) hne)
    have hnil : S = [] := List.eq_nil_of_length_eq_zero hn
    subst hnil
    obtain ⟨G, hG, hGl, hGt⟩ := hT.ext hE1
    let f : Nat → Bool := fun b => nodeB p (pre ++ [(b : Int)])
    have hcg : complG p [] pre = maskOf p.labels.toNat f := by unfold complG; apply maskOf_congr; intro b _; simp [prodL, f]
    refine ⟨fun (x y : Int) w' => ∃ b : Nat, y = b ∧ b ≤ p.labels.toNat ∧ x = (maskOf b f : Nat) ∧ w1 = w', fun _ y _ => p.labels.toNat - y.toNat, ⟨0, rfl, Nat.zero_le _, rfl, rfl⟩, ?_⟩
    rintro _ _ _ ⟨b, rfl, hb, rfl, rfl⟩
    intros
    refine LD_bi0 hb1 (cond_dec (fun hlt => LD_bs4 hb1 (LD_bi0 hb1 ?_)) (fun hge => ?_))
    · have hbn : b < p.labels.toNat := by omega
      have hds := (hd.snoc hbn).rev
      have hval : valL p.labels.toNat (pre ++ [(b : Int)]).reverse = b + p.labels.toNat * valL p.labels.toNat pre.reverse := by rw [List.reverse_append, List.reverse_cons, List.reverse_nil, List.nil_append, List.singleton_append, valL, Int.toNat_natCast]
      have hvl := valL_lt hds
      have hll : (pre ++ [(b : Int)]).reverse.length = p.degree.toNat := by simp; simp at hlen; omega
      rw [hll, ← hGl] at hvl
      have hGl' : G.length ≤ 4096 := by
        rw [hGl]
        have b1 : p.labels.toNat ^ p.degree.toNat ≤ 8 ^ p.degree.toNat := Nat.pow_le_pow_left (by omega) _
        have b2 : 8 ^ p.degree.toNat ≤ 8 ^ 4 := Nat.pow_le_pow_right (by decide) (by omega)
        have b3 : 8 ^ 4 = 4096 := by decide
        omega
      have en : p.labels = ((p.labels.toNat : Nat) : Int) := by omega
      have e1 : ((valL p.labels.toNat pre.reverse : Nat) : Int) * p.labels = ((p.labels.toNat * valL p.labels.toNat pre.reverse : Nat) : Int) := by
        rw [Int.natCast_mul, ← en, Int.mul_comm]
      have hb2 : p.labels.toNat * valL p.labels.toNat pre.reverse ≤ 1000000 := by omega
      have e2 : ((p.labels.toNat * valL p.labels.toNat pre.reverse : Nat) : Int) + (b : Int) = ((valL p.labels.toNat (pre ++ [(b : Int)]).reverse : Nat) : Int) := by rw [hval]; omega
      rw [e1, wrapN hb2, e2, wrapN (by omega)]
      refine hG.ixB hvl fun q hc => LD_bool hc ?_
      have hgv : G[valL p.labels.toNat (pre ++ [(b : Int)]).reverse] = f b := by
        have h1 := hGt _ hvl
        rw [← hll, digs_valL (by omega) hds] at h1
        have h2 : nodeB p (pre ++ [(b : Int)]).reverse = nodeB p (pre ++ [(b : Int)]) := nodeB_perm (List.reverse_perm _)
        rw [h2] at h1
        have h3 : G.getD (valL p.labels.toNat (pre ++ [(b : Int)]).reverse) false = f b := h1
        rw [← h3, List.getD_eq_getElem?_getD, List.getElem?_eq_getElem hvl]
        rfl
      rw [hgv]
      have hms := maskOf_small (n := b) (by omega) f
      refine cond_b (fun ht => ⟨by omega, ?_⟩) (fun hf => ?_)
      · have hadd := maskOf_add b f
        rw [if_pos ht] at hadd
        have h2 : 2 ^ b ≤ 2 ^ 8 := Nat.pow_le_pow_right (by decide) (by omega)
        have h3 : (2 : Nat) ^ 8 = 256 := by decide
        rw [shl_one (by omega)]
        generalize 2 ^ b = q at h2 hadd ⊢
        rw [wrap_of (n := _ + 1) (by omega) (by omega), wrap_of (by omega) (by omega)]
        refine ⟨⟨b + 1, by omega, by omega, ?_, rfl⟩, by simp only []; omega⟩
        rw [hadd]
        push_cast
        rfl
      · rw [wrap_of (by omega) (by omega)]
        refine ⟨⟨b + 1, by omega, by omega, ?_, rfl⟩, by simp only []; omega⟩
        rw [maskOf_add, hf]; simp
    · have : b = p.labels.toNat := by omega
      subst this
      exact ⟨by rw [hcg], hE1⟩
  | n + 1, w, z, u, g, s, S, pre, hn, hT, hS, hlen, hv, hd => by
    have hlab := hg.lab
    have hdeg := hg.deg
    have htwo := two_lab hg
    refine C_s_elTable_rest ?_
    unfold V_s_elTable_rest
    refine NEW_intro fun px w1 hpx hs1 hE1 hb1 => ?_
    rw [hS.len]
    refine cond_eq (fun he => absurd he (by omega)) (fun _ => LD_bi0 hb1 ⟨by omega, ?_⟩)
    match S, hn, hS, hlen, hv with
    | x :: S, hn, hS, hlen, hv =>
      refine (hS.ext hE1).ixI (i := 0) (by simp) fun q _ hc => LD_int hc ?_
      obtain ⟨t, ht, htl⟩ := hv x (by simp)
      simp only [List.getElem_cons_zero]
      rw [ht]
      refine call (elLabels_ok t w1) ?_
      rintro row w3 ⟨hE3, hO3⟩
      have hL64 := labsOf_I64 t
      have hR3 := (hO3.rep hL64).any
      rw [hR3.len]
      have hll := labsTo_len t 8
      have en : p.labels = ((p.labels.toNat : Nat) : Int) := by omega
      have e1 : IntKind.i64.wrap (shlI .i64 1 p.labels - 1) = ((2 ^ p.labels.toNat - 1 : Nat) : Int) := by
        rw [en, shl_one (by omega), Int.toNat_natCast]
        have := Nat.two_pow_pos p.labels.toNat
        generalize 2 ^ p.labels.toNat = q at htwo this ⊢
        rw [wrap_of (by omega) (by omega)]; omega
      rw [e1]
      have hfl : 2 ^ p.labels.toNat - 1 < 2 ^ p.labels.toNat := Nat.sub_lt (Nat.two_pow_pos _) (by decide)
      let H : Nat → Nat := fun j => (2 ^ p.labels.toNat - 1) &&& complH p S pre ((labsOf t).take j)
      have hHlt : ∀ j, H j < 2 ^ p.labels.toNat := fun j => Nat.lt_of_le_of_lt Nat.and_le_left hfl
      have hfin : H (labsOf t).length = complG p ((t : Int) :: S) pre := by
        show (2 ^ p.labels.toNat - 1) &&& complH p S pre ((labsOf t).take (labsOf t).length) = _
        rw [List.take_length, full_and (complH_lt _ _ _ _), complG_cons, Int.toNat_natCast]
      rw [← ht] at hfin
      refine ⟨fun (y q : Int) w' => ∃ j : Nat, q = j ∧ j ≤ (labsOf t).length ∧ y = (H j : Nat) ∧ Ext w3 w', fun _ q _ => (labsOf t).length - q.toNat, ⟨0, rfl, Nat.zero_le _, ?_, Ext.refl _⟩, ?_⟩
      · have : H 0 = 2 ^ p.labels.toNat - 1 := complH_nil p _ _ hfl
        rw [this]
      rintro _ _ w4 ⟨j, rfl, hj, rfl, hE4⟩
      intros
      have hl8 : (labsOf t).length ≤ 8 := hll
      refine cond_dec (fun hlt => ?_) (fun hge => ?_)
      · have hj' : j < (labsOf t).length := by omega
        refine (hR3.ext hE4).ixI hj' fun q _ hc => LD_int hc ?_
        obtain ⟨a, ha, han⟩ := dig_of htl _ (List.getElem_mem hj')
        have hH1 : H (j + 1) = H j &&& complG p S (pre ++ [(a : Int)]) := by
          show (2 ^ p.labels.toNat - 1) &&& complH p S pre ((labsOf t).take (j + 1)) = _
          rw [List.take_succ_eq_append_getElem hj', complH_snoc, ha]
        have hnext : ∀ {w5 : World} {y : Int}, Ext w4 w5 → y = (H (j + 1) : Nat) → (∃ j' : Nat, IntKind.i64.wrap ((j : Int) + 1) = j' ∧ j' ≤ (labsOf t).length ∧ y = (H j' : Nat) ∧ Ext w3 w5) ∧ (labsOf t).length - (IntKind.i64.wrap ((j : Int) + 1)).toNat < (labsOf t).length - ((j : Int)).toNat := fun {w5 y} h5 hy => by
          rw [wrap_of (by omega) (by omega)]
          exact ⟨⟨j + 1, by omega, hj', hy, hE4.trans h5⟩, by omega⟩
        refine cond_dec (fun hpos => ?_) (fun hz => ?_)
        · have hE14 := hE3.trans hE4
          refine LD_iisss (hb1.ext hE14) ?_
          refine slr_drop ((hS.ext hE1).ext hE14) (i := 1) (by simp) rfl fun s2 hs2 => LD_bi0 (hb1.ext hE14) ?_
          rw [List.drop_succ_cons, List.drop_zero] at hs2
          have hds := hd.snoc han
          have hval : valL p.labels.toNat (pre ++ [(a : Int)]).reverse = a + p.labels.toNat * valL p.labels.toNat pre.reverse := by rw [List.reverse_append, List.reverse_cons, List.reverse_nil, List.nil_append, List.singleton_append, valL, Int.toNat_natCast]
          have hvl := valL_lt hds.rev
          have hpl : (pre ++ [(a : Int)]).reverse.length ≤ 3 := by simp; simp at hlen; omega
          have hp3 : p.labels.toNat ^ (pre ++ [(a : Int)]).reverse.length ≤ 512 := by
            have b1 : p.labels.toNat ^ (pre ++ [(a : Int)]).reverse.length ≤ 8 ^ (pre ++ [(a : Int)]).reverse.length := Nat.pow_le_pow_left (by omega) _
            have b2 : 8 ^ (pre ++ [(a : Int)]).reverse.length ≤ 8 ^ 3 := Nat.pow_le_pow_right (by decide) hpl
            have b3 : 8 ^ 3 = 512 := by decide
            omega
          have e2 : ((valL p.labels.toNat pre.reverse : Nat) : Int) * p.labels = ((p.labels.toNat * valL p.labels.toNat pre.reverse : Nat) : Int) := by
            rw [Int.natCast_mul, ← en, Int.mul_comm]
          have hb2 : p.labels.toNat * valL p.labels.toNat pre.reverse ≤ 1000000 := by omega
          have e3 : ((p.labels.toNat * valL p.labels.toNat pre.reverse : Nat) : Int) + (a : Int) = ((valL p.labels.toNat (pre ++ [(a : Int)]).reverse : Nat) : Int) := by rw [hval]; omega
          rw [ha, e2, wrapN hb2, e3, wrapN (by omega)]
          refine QCALL_int ((complG p S (pre ++ [(a : Int)]) : Nat) : Int) (fun w' hE' => rest_ok hg n (by simpa using hn) ((hT.ext (hE1.trans hE14)).ext hE') (hs2.any.ext hE') (by simp; simp at hlen; omega) (fun y hy => hv y (List.mem_cons_of_mem _ hy)) hds) ?_
          intro w5 hE5
          have h1 := hHlt j
          have h2 := complG_lt p S (pre ++ [(a : Int)])
          refine hnext hE5 ?_
          rw [hH1, and_nat (by omega) (by omega)]
        · refine hnext (Ext.refl _) ?_
          have : H j = 0 := by omega
          rw [hH1, this, Nat.zero_and]
      · have : j = (labsOf t).length := by omega
        subst this
        exact ⟨by rw [hfin, ht], hE1.trans (hE3.trans hE4)⟩

theorem restM_ok {w : World} {p : Prob} {z u g s : Sl} {S : List Int} (hg : PGood p) (hT : TB w g p) (hS : R w s S) (hlen : S.length = p.degree.toNat - 1) (hv : ∀ x ∈ S, ∃ m : Nat, x = m ∧ m < 2 ^ p.labels.toNat) :
    Calls Tryz.prog F.s_elTable_rest #[.agg #[.int .i64 p.labels, .int .i64 p.degree, z.v, u.v, g.v], s.v, .int .i64 0] w (Ret [.at (.int .i64)] fun (x : Int) w' => x = complM p S ∧ Ext w w') := by
  have := rest_ok hg S.length (z := z) (u := u) (pre := []) rfl hT hS (by simpa using hlen) hv (fun x hx => by cases hx)
  rw [complM_G]
  exact this

theorem full_ok {w : World} {p : Prob} {z u g s : Sl} {l : List Int} (hg : PGood p) (hT : TB w g p) (hl : R w s l) (hll : l.length = p.degree.toNat) (hv : ∀ x ∈ l, ∃ m : Nat, x = m ∧ m < 2 ^ p.labels.toNat) :
    Calls Tryz.prog F.s_elTable_full #[.agg #[.int .i64 p.labels, .int .i64 p.degree, z.v, u.v, g.v], s.v] w (Ret [.at .bool] fun (x : Bool) w' => x = fullB p l ∧ Ext w w') := by
  refine C_s_elTable_full ?_
  unfold V_s_elTable_full
  have hdeg := hg.deg
  have h64 := flat_ok hl
  refine NEW_intro fun px w1 hpx hs1 hE1 hb1 => ?_
  rw [hl.len]
  refine ⟨IN l.length fun i w' => Ext w1 w' ∧ ∀ u, u < i → complM p (l.eraseIdx u) = l.getD u 0, MN l.length, IN_zero ⟨Ext.refl _, fun u hu => absurd hu (by omega)⟩, ?_⟩
  rintro _ w2 ⟨i, rfl, hi, hE2, hI⟩
  intros
  refine cond_dec (fun hlt => ?_) (fun hge => ?_)
  · have hi' : i < l.length := by omega
    have hE02 := hE1.trans hE2
    refine (hl.ext hE02).ixI hi' fun q _ hc => LD_int hc ?_
    intro w3 hE3 _
    have hE03 := hE02.trans hE3
    refine ⟨fun _ => False, SlR.take (hl.ext hE03) (i := i) (by omega) rfl fun s1 hs1' => ?_⟩
    have e1 : IntKind.i64.wrap ((i : Int) + 1) = ((i + 1 : Nat) : Int) := by rw [wrap_of (by omega) (by omega)]; omega
    rw [e1]
    refine slr_drop (hl.ext hE03) (i := i + 1) (by omega) rfl fun s2 hs2' => ?_
    refine call (l1Own_ok hs1'.any (by rw [List.length_take]; omega)) ?_
    rintro x w4 ⟨hE4, hO4⟩
    refine ⟨.of_ext hE4, ?_⟩
    refine RUN_append (α := Int) slt_int hO4 hE4.size_le (hs2'.any.ext hE4) (by simp; omega) (by simp [maxLen]; omega) fun y w5 hO5 hs5 => ?_
    have hE35 : Ext w3 w5 := hs5.ext0 hE4 fun k hk => (hO4.blk k hk).1
    refine ⟨.of_ext hE35, LD_iisss (hb1.ext (hE2.trans (hE3.trans hE35))) ?_⟩
    have he : l.take i ++ l.drop (i + 1) = l.eraseIdx i := (List.eraseIdx_eq_take_drop_succ ..).symm
    rw [he] at hO5
    have hsub : ∀ x ∈ l.eraseIdx i, x ∈ l := fun x hx => (List.eraseIdx_sublist l i).subset hx
    refine call (restM_ok hg (hT.ext (hE03.trans hE35)) (hO5.rep fun x hx => h64 x (hsub x hx)).any (by rw [List.length_eraseIdx_of_lt hi', hll]) fun x hx => hv x (hsub x hx)) ?_
    rintro _ w6 ⟨rfl, hE6⟩
    have hE26 := hE3.trans (hE35.trans hE6)
    refine cond_ne (fun hne => ⟨?_, hE02.trans hE26⟩) (fun heq => ?_)
    · have : fullB p l = false := by
        cases hf : fullB p l with
        | false => rfl
        | true =>
          unfold fullB at hf
          rw [List.all_eq_true] at hf
          have := hf i (List.mem_range.2 hi')
          rw [beq_iff_eq] at this
          exact absurd (this.trans (by simp [hi'])) hne
      rw [this]
    · refine ⟨⟨i + 1, by omega, hi', hE2.trans hE26, fun u hu => ?_⟩, by unfold MN; omega⟩
      by_cases hui : u = i
      · subst hui
        have h1 : complM p (l.eraseIdx u) = l[u] := heq
        rw [h1]; simp [hi']
      · exact hI u (by omega)
  · have : i = l.length := by omega
    subst this
    refine ⟨?_, hE1.trans hE2⟩
    symm
    unfold fullB
    rw [List.all_eq_true]
    intro u hu
    rw [beq_iff_eq]
    exact hI u (List.mem_range.1 hu)

/-! ### The table -/

def TIs (w : World) (p : Prob) (c d : Sl) (x y : Int) (z u g : Sl) (w' : World) : Prop := x = p.labels ∧ y = p.degree ∧ z = c ∧ u = d ∧ Ext w w' ∧ TB w' g p

theorem elTabled_k4_ok {w w0 : World} {c d g : Sl} {p : Prob} {pp px2 px : Addr} {base : Nat} (hg : PGood p) (hE : Ext w w0) (h : RProb w c d p) (hb1 : Box w0 pp T.t_i_Problem [.int .i64 p.labels, .int .i64 p.degree, c.v, d.v]) (hb2 : Box w0 px2 T.t_s_elTable [.int .i64 0, .int .i64 0, .slice none 0 0, .slice none 0 0, .slice none 0 0])
    (hb3 : Box w0 px T.t_s_elTable [.int .i64 p.labels, .int .i64 p.degree, c.v, d.v, g.v]) (hO : OwnL w0 base T.t_bool g (List.replicate (p.labels.toNat ^ p.degree.toNat) false)) (hp2 : w.heap.size ≤ px2.block) (hbase : px2.block < base) : V_s_elTabled_k4 (TIs w p c d) pp px2 px w0 := by
  unfold V_s_elTabled_k4
  have hlab := hg.lab
  have hdeg := hg.deg
  refine LD_bs4 hb3 ?_
  have hgl : g.len = p.labels.toNat ^ p.degree.toNat := by rw [hO.1]; simp
  rw [hgl]
  have hN : p.labels.toNat ^ p.degree.toNat ≤ 4096 := by
    have b1 : p.labels.toNat ^ p.degree.toNat ≤ 8 ^ p.degree.toNat := Nat.pow_le_pow_left (by omega) _
    have b2 : 8 ^ p.degree.toNat ≤ 8 ^ 4 := Nat.pow_le_pow_right (by decide) (by omega)
    have b3 : 8 ^ 4 = 4096 := by decide
    omega
  generalize hNe : p.labels.toNat ^ p.degree.toNat = N at *
  have hgo : ∀ b, oB g b → base ≤ b := fun b hb => (hO.blk b hb).1
  have hEb : ∀ {w' : World}, Chg w0 w' (oB g) → Ext w w' := fun hC => hC.ext0 hE fun k hk => by have := hgo k hk; omega
  have hbox : ∀ {w' : World} {pa : Addr} {t : TypeId} {cs : List Value}, Chg w0 w' (oB g) → Box w0 pa t cs → t ≠ T.t_bool → Box w' pa t cs := fun hC hB hn => hB.chg hC (hB.notOwn hO hn)
  refine ⟨IN N fun x w' => Chg w0 w' (oB g) ∧ ∃ G : List Bool, OwnL w' base T.t_bool g G ∧ G.length = N ∧ ∀ u, u < x → G.getD u false = nodeB p (digs p.labels.toNat p.degree.toNat u), MN N, IN_zero ⟨Chg.refl _ _, _, hO, by simp, fun u hu => absurd hu (by omega)⟩, ?_⟩
  rintro _ w1 ⟨x, rfl, hx, hC1, G, hG, hGl, hGt⟩
  intros
  refine cond_dec (fun hlt => ?_) (fun hge => ?_)
  · have hxN : x < N := by omega
    refine ⟨fun (l : Sl) (rest : Int) w' => ∃ j : Nat, j ≤ p.degree.toNat ∧ rest = ((x / p.labels.toNat ^ j : Nat) : Int) ∧ Ext w1 w' ∧ OwnL w' w1.heap.size T.t_int l (digs p.labels.toNat j x), fun l _ _ => p.degree.toNat - l.len, ⟨0, Nat.zero_le _, by simp, Ext.refl _, by simpa [digs] using OwnL.nil _ _ _⟩, ?_⟩
    rintro l _ w2 ⟨j, hj, rfl, hE2, hl⟩
    intros
    have hb12 := (hbox hC1 hb1 (by decide)).ext hE2
    refine LD_bi1 hb12 ?_
    have hll : l.len = j := by rw [hl.1, digs_len]
    rw [hll]
    have en : p.labels = ((p.labels.toNat : Nat) : Int) := by omega
    have hd64 : ∀ k, ∀ y ∈ digs p.labels.toNat k x, I64 y := fun k y hy => by
      obtain ⟨u, _, rfl⟩ := List.mem_map.1 hy
      have : x / p.labels.toNat ^ u % p.labels.toNat < p.labels.toNat := Nat.mod_lt _ (by omega)
      show I64 (((x / p.labels.toNat ^ u % p.labels.toNat : Nat)) : Int)
      generalize x / p.labels.toNat ^ u % p.labels.toNat = z at this
      unfold I64; omega
    refine cond_dec (fun hlt2 => LD_bi0 hb12 ⟨by omega, ?_⟩) (fun hge2 => ?_)
    · have em : Int.tmod ((x / p.labels.toNat ^ j : Nat) : Int) p.labels = ((x / p.labels.toNat ^ j % p.labels.toNat : Nat) : Int) := by rw [en, Int.ofNat_tmod, Int.toNat_natCast]
      have edv : Int.tdiv ((x / p.labels.toNat ^ j : Nat) : Int) p.labels = ((x / p.labels.toNat ^ (j + 1) : Nat) : Int) := by rw [en, ← Int.ofNat_tdiv, Int.toNat_natCast, Nat.div_div_eq_div_mul, Nat.pow_succ]
      rw [em]
      have hdj := hd64 (j + 1)
      rw [digs_succ] at hdj
      refine RUN_lit1 (α := Int) slt_int _ rfl (by decide) fun y w3 hE3 hO3 => ?_
      have hl3 := hl.ext hE3
      refine RUN_append (α := Int) slt_int hl3 (by have := hE2.size_le; have := hE3.size_le; omega) (hO3.rep (by intro z hz; exact hdj z (List.mem_append_right _ hz))).any (by simp [digs_len]; omega) (by simp [maxLen, digs_len]; omega) fun l' w4 hl4 hs4 => ?_
      have hE4 : Ext w1 w4 := hs4.ext0 (hE2.trans hE3) fun k hk => (hl3.blk k hk).1
      refine LD_bi0 ((hbox hC1 hb1 (by decide)).ext hE4) ⟨by omega, ?_⟩
      have hdv : x / p.labels.toNat ^ (j + 1) ≤ x := Nat.div_le_self _ _
      rw [edv, wrapN (by omega)]
      have hl'l : l'.len = j + 1 := by rw [hl4.1]; simp [digs_len]
      refine ⟨⟨j + 1, by omega, rfl, hE4, by rw [digs_succ]; exact hl4⟩, by simp only [hll, hl'l]; omega⟩
    · have hje : j = p.degree.toNat := by omega
      subst hje
      intro w3 hE3 _
      have hE13 := hE2.trans hE3
      have hC3 := hC1.trans (Chg.of_ext hE13)
      have hb33 := hbox hC3 hb3 (by decide)
      have hb13 := hbox hC3 hb1 (by decide)
      refine ⟨fun _ => False, fun h => h, LD_bs4 hb33 ⟨fun h => h, LD_iiss hb13 ⟨Chg.refl _ _, ?_⟩⟩⟩
      refine call (prNode_ok (h.ext ((hEb hC1).trans hE13)) ((hl.ext hE3).rep (hd64 _)).any (by rw [digs_len]; omega)) ?_
      rintro y w4 ⟨hy, hE4⟩
      have ey : y = nodeB p (digs p.labels.toNat p.degree.toNat x) := bool_of hy nodeB_iff
      refine ⟨.of_ext hE4, ?_⟩
      have hE14 := hE13.trans hE4
      have hG4 := hG.ext hE14
      refine IX_own hG4 (i := x) (by omega) rfl fun q hq => ?_
      refine ST_own hG4 (i := x) (by omega) hq y rfl fun w5 hG5 hs5 => ?_
      have hC5 : Chg w0 w5 (oB g) := (hC1.trans (Chg.of_ext hE14)).trans (.of_step hs5 fun k hk => hk)
      refine IN_next (by omega) hxN ⟨hC5, _, hG5, by simp [hGl], fun u hu => ?_⟩
      rw [ey]
      by_cases hux : u = x
      · subst hux
        rw [List.getD_eq_getElem?_getD, List.getElem?_set_self (by omega)]; rfl
      · rw [List.getD_eq_getElem?_getD, List.getElem?_set_ne (fun h => hux h.symm), ← List.getD_eq_getElem?_getD]
        exact hGt u (by omega)
  · have : x = N := by omega
    subst this
    refine LD_iisss (hbox hC1 hb3 (by decide)) ?_
    refine ST_all (hbox hC1 hb2 (by decide)) (one5p _ _ _ _ _) rfl fun w2 hs2 hz2 hb22 => LD_iisss hb22 ?_
    refine ⟨rfl, rfl, rfl, rfl, hs2.ext0 (hEb hC1) fun k hk => by cases hk; exact hp2, G, ?_, by rw [hGl, hNe], fun u hu => hGt u (by omega)⟩
    exact ((hG.rep fun _ _ => trivial).stepD hs2 fun b hb he => by cases he; omega).any

end Go.Proofs.YtndebacmnpghkaaGreat
end

section
/- Full lists of node sets, the node step: the program. -/
namespace Go.Proofs.YtndebacmnpghkaaGreat
open Go.GX Go.RowKit
set_option maxRecDepth 100000

theorem RUN_make0 {x : Int} {n : Nat} (hx : x = (n : Nat)) (hn : n ≤ 1000) {w : World} {K : Sl → World → Prop} (hk : ∀ s w', Ext w w' → OwnL w' w.heap.size T.t_int s ([] : List Int) → K s w') : RUN Tryz.prog (.at .sl) (Instr.makeSlice T.t_sl_int (.int .i64 0) (.int .i64 x)) w K := by
  subst hx
  obtain ⟨i, hi, hz0, hs, hby⟩ := slt_int.parts
  have hr := run_make (P := Tryz.prog) w T.t_sl_int T.t_int i (.int .i64 0) slt_int.under hi hz0 .i64 .i64 0 (n : Int) (by omega) (by omega) (by rw [hby]; omega) (by omega)
  unfold RUN
  rw [hr]
  refine hk ⟨some ⟨w.heap.size, 0, none⟩, 0, n⟩ _ (ext_push w _) ?_
  have hone : (Value.int .i64 0).cells = #[.int .i64 0] := rfl
  refine own_empty (α := Int) (cap := n) (cur := madeCells (Value.int .i64 0).cells ((n : Int).toNat * i.size)) ?_ (by unfold maxLen; omega) ?_
  · exact Array.getElem?_push_size
  · rw [hs, hone]; simp [madeCells, Rep.sz]

theorem fulls_take {p : Prob} {M : List (List Int)} {i : Nat} (hi : i < M.length) : fullsOf p (M.take (i + 1)) = fullsOf p (M.take i) ++ fullsOf p [M[i]] := by
  unfold fullsOf
  rw [List.take_succ_eq_append_getElem hi, List.filter_append, List.map_append]

theorem fulls_len {p : Prob} (M : List (List Int)) : (fullsOf p M).length ≤ M.length := by
  unfold fullsOf
  rw [List.length_map]
  exact List.length_filter_le _ _

structure FullsIs (w : World) (p : Prob) (r : Sl) (w' : World) : Prop where
  ext : Ext w w'
  ex : ∃ A tt, RowsD w' w.heap.size T.t_int T.t_sl_int r A tt ∧ (∀ l, l ∈ A ↔ l ∈ nodeFull p) ∧ A.length ≤ 262144

theorem fullLists_k2_ok {w w4 : World} {c d x : Sl} {p : Prob} {pa : Addr} (hg : PGood p) (hf : ¬ (p.degree = 4 ∧ 6 < p.labels)) (hE : Ext w w4) (hNS : NS w4 pa p c d) (hR : R w4 x (msets (2 ^ p.labels.toNat - 1) (p.degree.toNat - 1))) :
    V_ptr_i_nodeSets_fullLists_k2 (FullsIs w p) pa x x.len w4 := by
  have hlab := hg.lab
  have hdeg := hg.deg
  have htwo := two_lab hg
  unfold V_ptr_i_nodeSets_fullLists_k2
  have hml := Nat.le_trans (msets_len (2 ^ p.labels.toNat - 1) (p.degree.toNat - 1)) (pow_sets hg hf _ (Nat.le_refl _))
  rw [hR.len]
  generalize hM : msets (2 ^ p.labels.toNat - 1) (p.degree.toNat - 1) = M at *
  have hMm : ∀ r ∈ M, InM (2 ^ p.labels.toNat - 1) (p.degree.toNat - 1) r := fun r hr => mem_msets.1 (by rw [hM]; exact hr)
  have hfl64 : ∀ L : List (List Int), (∀ r ∈ L, r ∈ M) → ∀ r ∈ fullsOf p L, ∀ y ∈ r, I64 y := fun L hL r hr y hy => by
    unfold fullsOf at hr
    obtain ⟨e, he, rfl⟩ := List.mem_map.1 hr
    have hI := hMm e (hL e (List.mem_filter.1 he).1)
    rcases List.mem_append.1 ((sortI_perm _).mem_iff.1 hy) with h1 | h1
    · obtain ⟨z, hz, rfl⟩ := List.mem_map.1 h1
      have := hI.labs z hz
      unfold I64; omega
    · rw [List.mem_singleton.1 h1]
      have := complM_lt p (e.map (· + 1))
      unfold I64; omega
  refine ⟨IN2 M.length fun i (out : Sl) w' => Ext w4 w' ∧ ∃ ss, RowsD w' w4.heap.size T.t_int T.t_sl_int out (fullsOf p (M.take i)) ss, MN2 M.length, IN2_zero ⟨Ext.refl _, [], by simpa [fullsOf] using RowsD.nil _ _ _ _⟩, ?_⟩
  rintro out _ w5 ⟨i, rfl, hi, hE5, ss, hS5⟩
  intros
  refine cond_dec (fun hlt => ?_) (fun hge => ?_)
  · have hi' : i < M.length := by omega
    have hMi := hMm _ (List.getElem_mem hi')
    refine hR.ixL0 hE5 hi' fun q row hrow hc => LD_sl hc ?_
    obtain ⟨af, A, hbA, _, _, _⟩ := hNS.ext hE5
    refine LD_bi1 hbA ?_
    have ek : p.degree = ((p.degree.toNat : Nat) : Int) := by omega
    refine RUN_make0 ek (by omega) fun la w6 hE6 hO6 => ?_
    have hrow6 := (hrow.ext hE5).ext hE6
    rw [hrow6.len]
    have hz6 := hE6.size_le
    let c1 : List Int := M[i].map (· + 1)
    have hc1v : ∀ x ∈ c1, ∃ m : Nat, x = m ∧ m < 2 ^ p.labels.toNat := fun x hx => by
      obtain ⟨z, hz, rfl⟩ := List.mem_map.1 hx
      have := hMi.labs z hz
      exact ⟨(z + 1).toNat, by omega, by omega⟩
    have hMl := hMi.len
    have hone : ∀ {q : Bool}, (decide (complM p c1 ≠ 0) && fullB p (c1 ++ [complM p c1])) = q → fullsOf p [M[i]] = bif q then [sortI (c1 ++ [complM p c1])] else [] := fun {q} hq => by
      unfold fullsOf
      rw [List.filter_cons]
      have : (decide (complM p (M[i].map (· + 1)) ≠ 0) && fullB p (M[i].map (· + 1) ++ [complM p (M[i].map (· + 1))])) = q := hq
      rw [this]
      cases q <;> rfl
    have hskip : ∀ {w' : World}, Ext w5 w' → (decide (complM p c1 ≠ 0) && fullB p (c1 ++ [complM p c1])) = false → IN2 M.length (fun i (out : Sl) w' => Ext w4 w' ∧ ∃ ss, RowsD w' w4.heap.size T.t_int T.t_sl_int out (fullsOf p (M.take i)) ss) out (IntKind.i64.wrap ((i : Int) + 1)) w' ∧ MN2 M.length out (IntKind.i64.wrap ((i : Int) + 1)) w' < MN2 M.length out (i : Int) w5 := fun {w'} hE' hq => by
      refine IN2_next hR.le hi' ⟨hE5.trans hE', ss, ?_⟩
      rw [fulls_take hi', hone hq]
      simpa using hS5.ext hE'
    have hml2 : ∀ j, j ≤ M[i].length → ((M[i].take j).map (· + 1)).length = j := fun j hj => by rw [List.length_map, List.length_take]; omega
    refine ⟨IN2 M[i].length fun j (o : Sl) w' => OwnL w' w5.heap.size T.t_int o ((M[i].take j).map (· + 1)) ∧ Ext w5 w', MN2 M[i].length, IN2_zero ⟨hO6, hE6⟩, ?_⟩
    rintro o _ w7 ⟨j, rfl, hj, hO7, hE57⟩
    intros
    have hrow7 := (hrow.ext hE5).ext hE57
    have hz7 := hE57.size_le
    have hj2 := hml2 j hj
    refine cond_dec (fun hlt2 => ?_) (fun hge2 => ?_)
    · have hj' : j < M[i].length := by omega
      have hmj := hMi.labs _ (List.getElem_mem hj')
      refine hrow7.ixI hj' fun q _ hc => LD_int hc ?_
      rw [wrap_of (n := M[i][j] + 1) (by omega) (by omega)]
      refine RUN_lit1 (α := Int) slt_int _ rfl (by decide) fun y w8 hE8 hO8 => ?_
      have hO78 := hO7.ext hE8
      refine RUN_append (α := Int) slt_int hO78 (by have := hE8.size_le; omega) (hO8.rep (by intro x hx; rw [List.mem_singleton.1 hx]; show I64 _; unfold I64; omega)).any (by simp; omega) (by simp [maxLen]; omega) fun o' w9 hO9 hs9 => ?_
      refine IN2_next hrow7.le hj' ⟨?_, hs9.ext0 (hE57.trans hE8) fun k hk => (hO78.blk k hk).1⟩
      rw [map_take_succ hj']
      exact hO9
    · have : j = M[i].length := by omega
      subst this
      rw [List.take_length] at hO7
      have hc164 : ∀ x ∈ c1, I64 x := fun x hx => by obtain ⟨m, rfl, hm⟩ := hc1v x hx; unfold I64; omega
      have hc1l : c1.length = p.degree.toNat - 1 := by show (M[i].map (· + 1)).length = _; rw [List.length_map, hMl]
      refine call (completing_ok hg (hNS.ext (hE5.trans hE57)) (hO7.rep hc164).any hc1l hc1v) ?_
      rintro _ w10 ⟨rfl, hE10⟩
      have hE510 := hE57.trans hE10
      have hclt := complM_lt p c1
      have hcI : I64 (complM p c1) := by unfold I64; omega
      refine cond_eq (fun h0 => hskip hE510 ?_) (fun hne => ?_)
      · have h0' : complM p c1 = 0 := h0
        simp [h0']
      · have hne' : complM p c1 ≠ 0 := hne
        refine RUN_lit1 (α := Int) slt_int _ rfl (by decide) fun y w11 hE11 hO11 => ?_
        have hO711 := (hO7.ext hE10).ext hE11
        have hz10 := hE10.size_le
        have hz11 := hE11.size_le
        refine RUN_append (α := Int) slt_int hO711 (by omega) (hO11.rep (by intro x hx; rw [List.mem_singleton.1 hx]; exact hcI)).any (by simp; omega) (by simp [maxLen]; omega) fun o2 w12 hO12 hs12 => ?_
        have hE512 : Ext w5 w12 := hs12.ext0 (hE510.trans hE11) fun k hk => (hO711.blk k hk).1
        have hc2v : ∀ x ∈ c1 ++ [complM p c1], ∃ m : Nat, x = m ∧ m < 2 ^ p.labels.toNat := fun x hx => by
          rcases List.mem_append.1 hx with h1 | h1
          · exact hc1v x h1
          · rw [List.mem_singleton.1 h1]; exact ⟨(complM p c1).toNat, by omega, by omega⟩
        have hc264 : ∀ x ∈ c1 ++ [complM p c1], I64 x := fun x hx => by obtain ⟨m, rfl, hm⟩ := hc2v x hx; unfold I64; omega
        have hc2l : (c1 ++ [complM p c1]).length = p.degree.toNat := by rw [List.length_append, hc1l]; simp; omega
        refine call (isFull_ok hg (hNS.ext (hE5.trans hE512)) (hO12.rep hc264).any hc2l hc2v) ?_
        rintro _ w13 ⟨rfl, hE13⟩
        have hE513 := hE512.trans hE13
        refine cond_b (fun ht => ?_) (fun hff => hskip hE513 (by rw [hff]; simp))
        have hO13 : OwnL w13 w5.heap.size T.t_int o2 (c1 ++ [complM p c1]) := hO12.ext hE13
        refine call (sort_ok hO13 (by omega)) ?_
        rintro w14 ⟨hO14, hs14⟩
        have hE514 : Ext w5 w14 := hs14.ext0 hE513 fun k hk => (hO13.blk k hk).1
        refine RUN_lit1 (α := Sl) slt_rows o2 rfl (by decide) fun y2 w15 hE15 hO15 => ?_
        have hE515 := hE514.trans hE15
        have hS15 := hS5.ext hE515
        have hz5 := hE5.size_le
        have hz15 := hE515.size_le
        have hfl := fulls_len (p := p) (M.take i)
        have htl : (M.take i).length ≤ i := by rw [List.length_take]; omega
        refine RUN_append_rowD slt_rows (by decide) hS15 (by omega) ((hO14.ext hE15).low hz5) (hS5.fresh (hO14.ext hE15) (Nat.le_refl _)) hO15 (by omega) (by unfold maxLen; omega) fun s' w16 hS16 hs16 => ?_
        refine IN2_next hR.le hi' ⟨hs16.ext0 (hE5.trans hE515) fun k hk => (hS15.own.blk k hk).1, ss ++ [o2], ?_⟩
        rw [fulls_take hi', hone (q := true) (by rw [ht]; simp [hne'])]
        exact hS16
  · have : i = M.length := by omega
    subst this
    rw [List.take_length] at hS5
    refine call (sortedLists_ok hS5 (hfl64 M fun r hr => hr) (by have := fulls_len (p := p) M; omega)) ?_
    rintro r w6 ⟨hC6, A, tt, hA, hAr, hAm, hAl⟩
    have hE46 : Ext w4 w6 := hC6.ext0 hE5 fun k hk => (hS5.own.blk k hk).1
    refine ⟨hE.trans hE46, A, tt, hA.low hE.size_le, fun l => ?_, by have := fulls_len (p := p) M; omega⟩
    rw [hAm, ← hM]
    exact fulls_mem (by omega)

theorem fullLists_ok {w : World} {c d : Sl} {p : Prob} {pa : Addr} (hg : PGood p) (hf : ¬ (p.degree = 4 ∧ 6 < p.labels)) (hNS : NS w pa p c d) :
    Calls Tryz.prog F.ptr_i_nodeSets_fullLists #[.pointer (some pa)] w (Ret [.at .sl] (FullsIs w p)) := by
  refine C_ptr_i_nodeSets_fullLists ?_
  unfold V_ptr_i_nodeSets_fullLists
  have hlab := hg.lab
  have hdeg := hg.deg
  have htwo := two_lab hg
  intro w1 hE1 _
  have hNS1 := hNS.ext hE1
  obtain ⟨af, A, hbA, _, _, _⟩ := id hNS1
  have en : p.labels = ((p.labels.toNat : Nat) : Int) := by omega
  have e1 : IntKind.i64.wrap (shlI .i64 1 p.labels - 1) = ((2 ^ p.labels.toNat - 1 : Nat) : Int) := by
    rw [en, shl_one (by omega), Int.toNat_natCast]
    have := Nat.two_pow_pos p.labels.toNat
    generalize 2 ^ p.labels.toNat = q at htwo this ⊢
    rw [wrap_of (by omega) (by omega)]; omega
  have e2 : IntKind.i64.wrap (p.degree - 1) = ((p.degree.toNat - 1 : Nat) : Int) := by rw [wrap_of (by omega) (by omega)]; omega
  have hms := multisets_ok w1 (n := 2 ^ p.labels.toNat - 1) (k := p.degree.toNat - 1) (by omega) (by omega) fun j hj => Nat.le_trans (pow_sets hg hf j hj) (by omega)
  have h64 : ∀ r ∈ msets (2 ^ p.labels.toNat - 1) (p.degree.toNat - 1), ∀ x ∈ r, I64 x := fun r hr x hx => by have := (mem_msets.1 hr).labs x hx; unfold I64; omega
  refine ⟨⟨Ext.refl _, LD_bi0 hbA ⟨by omega, Ext.refl _, Ext.refl _, Ext.refl _, LD_bi1 hbA ⟨Ext.refl _, Ext.refl _, ?_⟩⟩⟩, ⟨Ext.refl _, LD_bi1 hbA ⟨Ext.refl _, Ext.refl _, Ext.refl _, LD_bi0 hbA ⟨Ext.refl _, by omega, Ext.refl _, Ext.refl _, ?_⟩⟩⟩⟩
  · rw [e1, e2]
    refine call hms ?_
    rintro x w2 ⟨hE2, ss, hM⟩
    exact ⟨hE2, Ext.refl _, fullLists_k2_ok hg hf (hE1.trans hE2) (hNS1.ext hE2) (hM.rep h64)⟩
  · rw [e1, e2]
    refine call hms ?_
    rintro x w2 ⟨hE2, ss, hM⟩
    exact ⟨hE2, Ext.refl _, fullLists_k2_ok hg hf (hE1.trans hE2) (hNS1.ext hE2) (hM.rep h64)⟩

theorem node_byte {p : Prob} (hg : PGood p) : Byte (nodeFull p) := fun l hl x hx => by
  have h1 := (nodeFull_conf p l hl).vals x hx
  have h2 := two_lab hg
  exact ⟨x.toNat, by omega, by omega⟩

theorem node_len {p : Prob} : ∀ r ∈ nodeFull p, r.length = p.degree.toNat := fun l hl => (nodeFull_conf p l hl).len

theorem byte_congr {L L' : List (List Int)} (h : ∀ x, x ∈ L ↔ x ∈ L') (hB : Byte L') : Byte L := fun l hl x hx => hB l ((h l).1 hl) x hx

theorem nodeStep_ok {w : World} {c d : Sl} {p : Prob} (h : RProb w c d p) (hs : SmallP p) (hg : PGood p) :
    Calls Tryz.prog F.i_nodeStep #[.agg #[.int .i64 p.labels, .int .i64 p.degree, c.v, d.v]] w (Ret [.agg [.int .i64, .int .i64, .sl, .sl], .at .sl, .at .bool] (StIs w (nodeP p) (ndFew p) (nodeSets p))) := by
  refine C_i_nodeStep ?_
  unfold V_i_nodeStep
  refine NEW_intro fun pp w1 hp1 hs1 hE1 hb1 => NEW_intro fun px w2 hp2 hs2 hE2 hb2 => LD_bi1 (hb1.ext hE2) ?_
  have hE := hE1.trans hE2
  have hz1 := hE1.size_le
  replace h := h.ext hE
  replace hb1 := hb1.ext hE2
  have hlab := hg.lab
  have hd := hg.deg
  have hgo : ¬ (p.degree = 4 ∧ 6 < p.labels) → V_i_nodeStep_k1 (StIs w (nodeP p) (ndFew p) (nodeSets p)) pp px w2 := fun hfit => by
    unfold V_i_nodeStep_k1
    refine LD_iiss hb1 ?_
    refine call (newNodeSets_ok h hs hg) ?_
    rintro pa w3 ⟨hE3, hNS⟩
    refine call (fullLists_ok hg hfit hNS) ?_
    rintro x w4 hFI
    obtain ⟨hE4, A, tt, hA, hAm, hAl⟩ := hFI
    have hE24 := hE3.trans hE4
    have hBA := byte_congr hAm (node_byte hg)
    have h64A : ∀ r ∈ A, ∀ x ∈ r, I64 x := fun r hr x hx => by obtain ⟨m, rfl, hm⟩ := hBA r hr x hx; unfold I64; omega
    refine call (newLabels_ok (k := p.degree.toNat) (hA.rep h64A) hBA (fun r hr => node_len r ((hAm r).1 hr)) (by omega) hAl) ?_
    rintro a b w5 ⟨hE5, hOa, tb, hRb⟩
    rw [setsOf_congr hAm] at hOa
    rw [ownOf_congr hAm] at hRb
    have hE25 := hE24.trans hE5
    replace h := h.ext hE25
    replace hb1 := hb1.ext hE25
    replace hb2 := hb2.ext hE25
    refine NEW_ST (zs := [.slice none 0 0]) (one1s a) rfl fun ps w6 hps hE6 hb6 => ?_
    replace h := h.ext hE6
    replace hb1 := hb1.ext hE6
    replace hb2 := hb2.ext hE6
    replace hOa := hOa.ext hE6
    replace hRb := hRb.ext hE6
    have hSv : ∀ x ∈ setsOf (nodeFull p), ∃ m : Nat, x = m ∧ m < 256 := byte_sets rfl
    have hS64 : ∀ y ∈ setsOf (nodeFull p), I64 y := fun y hy => by obtain ⟨m, rfl, hm⟩ := setsOf_byte hy; unfold I64; omega
    have hE26 := hE25.trans hE6
    have hE06 := hE.trans hE26
    have haL : a.len = (setsOf (nodeFull p)).length := hOa.1
    refine LD_bs hb6 ?_
    refine call (within_ok _ _ _ _) ?_
    rintro _ _ ⟨rfl, rfl⟩
    rw [haL]
    refine cond_not (fun hf => ?_) (fun ht => LD_bs hb6 ?_)
    · exact zero_problem hE06 hb2 (by omega) fun w' hE' => ⟨hE', .inr ⟨rfl, fun hfew => inR_false hf ⟨by have := hfew.2.1; unfold nodeSets at this; omega, by have := hfew.2.2; unfold nodeSets at this; omega⟩⟩⟩
    · have hr := inR_true ht
      have hfew : ndFew p := ⟨hfit, by unfold nodeSets; omega, by unfold nodeSets; omega⟩
      have e2 : (2 : Int) = ((2 : Nat) : Int) := rfl
      rw [haL, e2]
      refine call (allowedBy_ok (p := fun l => (prodL (listsAt (setsOf (nodeFull p)) l)).any (nodeB2 p)) (by omega) (by omega) (pow_small8 (by omega) (by omega)) fun l hM w' t hE' hl => nodeStep1_ok h hs hg hb1 hb6 (hOa.rep hS64).any hSv (by omega) (.inl rfl) hM hE' hl) ?_
      rintro z w7 ⟨hE7, ssz, hz⟩
      intro w8 hE8 _
      have hE68 := hE7.trans hE8
      replace hb1 := hb1.ext hE68
      replace hb2 := hb2.ext hE68
      replace hb6 := hb6.ext hE68
      replace hOa := hOa.ext hE68
      replace hRb := hRb.ext hE68
      have hlt2 := hb2.lt
      have hz5 := hE25.size_le
      have hpp : pp.block ≠ px.block := by omega
      have hpsb : ps.block ≠ px.block := by omega
      refine ⟨fun b => b = px.block, hpsb, LD_bs hb6 ⟨by rw [add_block]; exact hpp, LD_bi1 hb1 ⟨hpsb, LD_bs hb6 ?_⟩⟩⟩
      rw [haL]
      refine ST_all hb2 (one4p _ _ _ _) rfl fun w9 hs9 hz9 hb9 => ⟨.of_step hs9 fun k hk => by cases hk; rfl, LD_iiss hb9 ?_⟩
      have hz6 := hE26.size_le
      have hz4 := hE24.size_le
      have hkeep : ∀ k, w2.heap.size ≤ k → k < w8.heap.size → w9.heap[k]? = w8.heap[k]? := fun k h1 h2 => hs9.block k h2 (by intro he; cases he; omega)
      have hmade : PGood (nodeP p) := (NdAsked.mk hg hfit hfew.2).made
      refine ⟨hs9.ext0 (hE06.trans hE68) fun k hk => by cases hk; omega, .inl ⟨rfl, hfew, rfl, rfl, NewP.low (base := w2.heap.size) ⟨?_, ?_, ?_, ?_, ?_⟩ hE.size_le⟩⟩
      · show I64 (((nodeSets p).length : Nat) : Int); unfold I64 nodeSets; omega
      · show I64 p.degree; unfold I64; omega
      · exact ((hRb.low (b := w2.heap.size) hz4).keep hkeep).own2.repD (conf_I64 hmade.nodes hmade.lab.2)
      · exact (((hz.ext hE8).low (b := w2.heap.size) hz6).keep hkeep).own2.repD (conf_I64 hmade.edges hmade.lab.2)
      · exact ((hOa.low (base' := w2.heap.size) hz4).keep fun k hk => hkeep k (by have := (hOa.blk k hk).1; omega) (hOa.blk k hk).2).rep hS64
  refine cond_eq (fun h4 => LD_bi0 hb1 (cond_dec (fun h6 => ?_) (fun h6 => hgo fun hh => h6 hh.2))) (fun h4 => hgo fun hh => h4 hh.1)
  exact zero_problem hE hb2 (by omega) fun w' hE' => ⟨hE', .inr ⟨rfl, fun hfew => hfew.1 ⟨h4, h6⟩⟩⟩

def ndGood (p : Prob) : Prop := PGood p ∧ ndFew p

end Go.Proofs.YtndebacmnpghkaaGreat
end

section
/- The node step, the reference; the node step of problems that are asked for, both sides. -/
namespace Go.Proofs.YtndebacmnpghkaaGreat
open Go.GX Go.RowKit
set_option maxRecDepth 100000

theorem RUN_makeB {x : Int} {n : Nat} (hx : x = (n : Nat)) (hn : n ≤ 1000000) {w : World} {K : Sl → World → Prop} (hk : ∀ s w', Ext w w' → OwnL w' w.heap.size T.t_bool s (List.replicate n false) → K s w') : RUN Tryz.prog (.at .sl) (Instr.makeSlice T.t_sl_bool (.int .i64 x) (.int .i64 x)) w K := by
  subst hx
  exact RUN_make (α := Bool) slt_bool (d := false) rfl (by omega) (by unfold maxLen; omega) hk

theorem elTabled_ok {w : World} {c d : Sl} {p : Prob} (h : RProb w c d p) (hg : PGood p) :
    Calls Tryz.prog F.s_elTabled #[.agg #[.int .i64 p.labels, .int .i64 p.degree, c.v, d.v]] w (Ret [.agg [.int .i64, .int .i64, .sl, .sl, .sl]] fun (x : Int) (y : Int) (z : Sl) (u : Sl) (g : Sl) w' => TIs w p c d x y z u g w') := by
  refine C_s_elTabled ?_
  unfold V_s_elTabled
  refine NEW_intro fun pp w1 hp1 hs1 hE1 hb1 => NEW_intro fun px w2 hp2 hs2 hE2 hb2 => ?_
  have hE := hE1.trans hE2
  replace hb1 := hb1.ext hE2
  have hlab := hg.lab
  have hdeg := hg.deg
  have hz := hE1.size_le
  have en : p.labels = ((p.labels.toNat : Nat) : Int) := by omega
  have hN : ∀ j, j ≤ p.degree.toNat → p.labels.toNat ^ j ≤ 4096 := fun j hj => by
    have b1 : p.labels.toNat ^ j ≤ 8 ^ j := Nat.pow_le_pow_left (by omega) _
    have b2 : 8 ^ j ≤ 8 ^ 4 := Nat.pow_le_pow_right (by decide) (by omega)
    have b3 : 8 ^ 4 = 4096 := by decide
    omega
  refine ⟨fun (s : Int) (k : Int) w' => ∃ j : Nat, k = j ∧ j ≤ p.degree.toNat ∧ s = ((p.labels.toNat ^ j : Nat) : Int) ∧ Ext w2 w', fun _ k _ => p.degree.toNat - k.toNat, ⟨0, rfl, Nat.zero_le _, by simp, Ext.refl _⟩, ?_⟩
  rintro _ _ w3 ⟨j, rfl, hj, rfl, hE3⟩
  intros
  replace hb1 := hb1.ext hE3
  replace hb2 := hb2.ext hE3
  have hNj := hN j hj
  refine LD_bi1 hb1 (cond_dec (fun hlt => LD_bi0 hb1 ?_) (fun hge => ?_))
  · have e1 : ((p.labels.toNat ^ j : Nat) : Int) * p.labels = ((p.labels.toNat ^ (j + 1) : Nat) : Int) := by rw [Nat.pow_succ, Int.natCast_mul, ← en]
    have hN1 := hN (j + 1) (by omega)
    rw [e1, wrapN (by omega), wrap_of (by omega) (by omega)]
    exact ⟨⟨j + 1, by omega, by omega, rfl, hE3⟩, by simp only []; omega⟩
  · have : j = p.degree.toNat := by omega
    subst this
    intro w4 hE4 _
    replace hb1 := hb1.ext hE4
    replace hb2 := hb2.ext hE4
    have hE24 := hE3.trans hE4
    have hE04 := hE.trans hE24
    have hz2 := hE24.size_le
    have hl1 := hb1.lt
    have hl2 := hb2.lt
    refine ⟨fun b => w4.heap.size ≤ b, by omega, LD_iiss hb1 ⟨?_, ?_⟩⟩
    · refine RUN_makeB rfl (by omega) fun g w5 hE5 hO5 => ⟨.of_ext hE5, NEW_intro fun px5 w6 hp6 hs6 hE6 hb6 => ⟨.of_ext (hE5.trans hE6), ?_⟩⟩
      have hE46 := hE5.trans hE6
      have hz5 := hE5.size_le
      refine ST_all hb6 (one5p _ _ _ _ _) rfl fun w7 hs7 hz7 hb7 => ⟨(Chg.of_ext hE46).trans (.of_step hs7 fun k hk => by cases hk; omega), ?_⟩
      have hE47 : Ext w4 w7 := hs7.ext0 hE46 fun k hk => by cases hk; omega
      exact elTabled_k4_ok hg (hE04.trans hE47) h (hb1.ext hE47) (hb2.ext hE47) hb7 ((hO5.ext hE6).stepB hb6 (by decide) hs7) (by omega) (by omega)
    · refine NEW_intro fun px5 w8 hp8 hs8 hE8 hb8 => ⟨.of_ext hE8, ?_⟩
      have hz8 := hE8.size_le
      refine RUN_makeB rfl (by omega) fun g w9 hE9 hO9 => ⟨.of_ext (hE8.trans hE9), .of_ext (hE8.trans hE9), ?_⟩
      have hE49 := hE8.trans hE9
      have hb9 := hb8.ext hE9
      refine ST_all hb9 (one5p _ _ _ _ _) rfl fun w10 hs10 hz10 hb10 => ⟨(Chg.of_ext hE49).trans (.of_step hs10 fun k hk => by cases hk; omega), ?_⟩
      have hE4x : Ext w4 w10 := hs10.ext0 hE49 fun k hk => by cases hk; omega
      exact elTabled_k4_ok hg (hE04.trans hE4x) h (hb1.ext hE4x) (hb2.ext hE4x) hb10 (hO9.stepB hb9 (by decide) hs10) (by omega) (by omega)

/-! ### The full lists, the reference's way -/

def gG (p : Prob) (c : List Int) : List Int := c.map (· + 1) ++ [complM p (c.map (· + 1))]
def gF (p : Prob) (c : List Int) : Bool := decide (complM p (c.map (· + 1)) ≠ 0) && (c.map (· + 1)).all (fun x => decide (x ≤ complM p (c.map (· + 1)))) && fullB p (gG p c)
def fullsS (p : Prob) (C : List (List Int)) : List (List Int) := (C.filter (gF p)).map (gG p)

theorem fullsS_mem {p : Prob} {d : Nat} (hd : p.degree.toNat = d + 1) {l : List Int} : l ∈ fullsS p (msets (2 ^ p.labels.toNat - 1) d) ↔ l ∈ nodeFull p := by
  rw [nodeFull_of' hd]
  unfold fullsS setLists
  rw [List.mem_map]
  constructor
  · rintro ⟨c, hc, rfl⟩
    rw [List.mem_filter] at hc
    have h2 := hc.2
    unfold gF at h2
    rw [Bool.and_eq_true, Bool.and_eq_true, decide_eq_true_eq, List.all_eq_true] at h2
    exact ⟨_, List.mem_map.2 ⟨c, hc.1, rfl⟩, h2.1.1, fun x hx => of_decide_eq_true (h2.1.2 x hx), h2.2, rfl⟩
  · rintro ⟨c, hc, h0, hle, hf, rfl⟩
    obtain ⟨e, he, rfl⟩ := List.mem_map.1 hc
    refine ⟨e, ?_, rfl⟩
    rw [List.mem_filter]
    refine ⟨he, ?_⟩
    unfold gF
    rw [Bool.and_eq_true, Bool.and_eq_true, decide_eq_true_eq, List.all_eq_true]
    exact ⟨⟨h0, fun x hx => decide_eq_true (hle x hx)⟩, hf⟩

theorem fullsS_take {p : Prob} {M : List (List Int)} {i : Nat} (hi : i < M.length) : fullsS p (M.take (i + 1)) = fullsS p (M.take i) ++ fullsS p [M[i]] := by
  unfold fullsS
  rw [List.take_succ_eq_append_getElem hi, List.filter_append, List.map_append]

theorem fullsS_len {p : Prob} (M : List (List Int)) : (fullsS p M).length ≤ M.length := by
  unfold fullsS
  rw [List.length_map]
  exact List.length_filter_le _ _

theorem last_max {n k : Nat} {c : List Int} (h : InM n k c) (hc : 0 < c.length) {v : Int} : (c.map (· + 1)).all (fun x => decide (x ≤ v)) = !decide (v < (c.map (· + 1))[(c.map (· + 1)).length - 1]'(by rw [List.length_map]; omega)) := by
  rw [Bool.eq_iff_iff, List.all_eq_true, Bool.not_eq_true', decide_eq_false_iff_not]
  have hlast := last_of_len hc fun x hx => (h.labs x hx).1
  have hel : (c.map (· + 1))[(c.map (· + 1)).length - 1]'(by rw [List.length_map]; omega) = (lastOf c : Int) + 1 := by
    rw [← hlast]; simp
  rw [hel]
  constructor
  · intro hx
    have := of_decide_eq_true (hx ((lastOf c : Int) + 1) (List.mem_map.2 ⟨lastOf c, by rw [← hlast]; exact List.getElem_mem _, rfl⟩))
    omega
  · intro hv x hx
    obtain ⟨y, hy, rfl⟩ := List.mem_map.1 hx
    have := le_last h.sorted (fun x hx => (h.labs x hx).1) y hy
    rw [decide_eq_true_eq]; omega

theorem elNode_k1_ok {w w4 : World} {c d : Sl} {p : Prob} {px1 px2 : Addr} (hg : PGood p) (hf : ¬ (p.degree = 4 ∧ 6 < p.labels)) (h : RProb w c d p) (hE : Ext w w4) (hb1 : Box w4 px1 T.t_i_Problem [.int .i64 p.labels, .int .i64 p.degree, c.v, d.v]) (hb2 : Box w4 px2 T.t_i_Problem [.int .i64 0, .int .i64 0, .slice none 0 0, .slice none 0 0]) (hp2 : w.heap.size ≤ px2.block) :
    V_s_elNode_k1 (StIs w (nodeP p) (ndFew p) (nodeSets p)) px1 px2 w4 := by
  have hlab := hg.lab
  have hdeg := hg.deg
  have htwo := two_lab hg
  unfold V_s_elNode_k1
  refine LD_iiss hb1 ?_
  refine call (elTabled_ok (h.ext hE) hg) ?_
  rintro x y z u g w5 ⟨rfl, rfl, rfl, rfl, hE5, hT5⟩
  refine NEW_ST (one5p _ _ _ _ _) rfl fun px5 w7 hp5 hE7 hb5 => ?_
  intro w8 hE8 _
  have hE48 := hE5.trans (hE7.trans hE8)
  have hE08 := hE.trans hE48
  have hT := hT5.ext (hE7.trans hE8)
  replace h := h.ext hE08
  replace hb1 := hb1.ext hE48
  replace hb2 := hb2.ext hE48
  replace hb5 := hb5.ext hE8
  have en : p.labels = ((p.labels.toNat : Nat) : Int) := by omega
  have e1 : IntKind.i64.wrap (shlI .i64 1 p.labels - 1) = ((2 ^ p.labels.toNat - 1 : Nat) : Int) := by
    rw [en, shl_one (by omega), Int.toNat_natCast]
    have := Nat.two_pow_pos p.labels.toNat
    generalize 2 ^ p.labels.toNat = q at htwo this ⊢
    rw [wrap_of (by omega) (by omega)]; omega
  have e2 : IntKind.i64.wrap (p.degree - 1) = ((p.degree.toNat - 1 : Nat) : Int) := by rw [wrap_of (by omega) (by omega)]; omega
  have hms := reChoices_ok w8 (n := 2 ^ p.labels.toNat - 1) (k := p.degree.toNat - 1) (by omega) (by omega) fun j hj => Nat.le_trans (pow_sets hg hf j hj) (by omega)
  have h64 : ∀ r ∈ msets (2 ^ p.labels.toNat - 1) (p.degree.toNat - 1), ∀ x ∈ r, I64 x := fun r hr x hx => by have := (mem_msets.1 hr).labs x hx; unfold I64; omega
  refine LD_bi0 hb1 ⟨by omega, LD_bi1 hb1 ?_⟩
  rw [e1, e2]
  refine call hms ?_
  rintro x w9 ⟨hE9, ssM, hRM⟩
  have hR := hRM.rep h64
  refine ⟨hE9, hE9, ?_⟩
  replace hE08 := hE08.ext hE9
  replace h := h.ext hE9
  replace hb1 := hb1.ext hE9
  replace hb2 := hb2.ext hE9
  replace hb5 := hb5.ext hE9
  replace hT := hT.ext hE9
  have hml := Nat.le_trans (msets_len (2 ^ p.labels.toNat - 1) (p.degree.toNat - 1)) (pow_sets hg hf _ (Nat.le_refl _))
  rw [hR.len]
  generalize hM : msets (2 ^ p.labels.toNat - 1) (p.degree.toNat - 1) = M at *
  have hMm : ∀ r ∈ M, InM (2 ^ p.labels.toNat - 1) (p.degree.toNat - 1) r := fun r hr => mem_msets.1 (by rw [hM]; exact hr)
  have hmem : ∀ l, l ∈ fullsS p M ↔ l ∈ nodeFull p := fun l => by rw [← hM]; exact fullsS_mem (by omega)
  refine ⟨IN2 M.length fun i (out : Sl) w' => Ext w9 w' ∧ ∃ ss, RowsD w' w9.heap.size T.t_int T.t_sl_int out (fullsS p (M.take i)) ss, MN2 M.length, IN2_zero ⟨Ext.refl _, [], by simpa [fullsS] using RowsD.nil _ _ _ _⟩, ?_⟩
  rintro out _ w10 ⟨i, rfl, hi, hE10, ss, hS10⟩
  intros
  refine cond_dec (fun hlt => ?_) (fun hge => ?_)
  · have hi' : i < M.length := by omega
    have hMi := hMm _ (List.getElem_mem hi')
    refine (hR.ext hE10).ixL hi' fun q row hrow hc => LD_sl hc ?_
    have hMl := hMi.len
    rw [hrow.len]
    let c1 : List Int := M[i].map (· + 1)
    have hc1v : ∀ x ∈ c1, ∃ m : Nat, x = m ∧ m < 2 ^ p.labels.toNat := fun x hx => by
      obtain ⟨z, hz, rfl⟩ := List.mem_map.1 hx
      have := hMi.labs z hz
      exact ⟨(z + 1).toNat, by omega, by omega⟩
    have hone : ∀ {q : Bool}, gF p M[i] = q → fullsS p [M[i]] = bif q then [c1 ++ [complM p c1]] else [] := fun {q} hq => by
      unfold fullsS
      rw [List.filter_cons, hq]
      cases q <;> rfl
    have hskip : ∀ {w' : World}, Ext w10 w' → gF p M[i] = false → V_s_elNode_k5 (IN2 M.length fun i (out : Sl) w' => Ext w9 w' ∧ ∃ ss, RowsD w' w9.heap.size T.t_int T.t_sl_int out (fullsS p (M.take i)) ss) (MN2 M.length) out (i : Int) w10 out w' := fun {w'} hE' hq => by
      unfold V_s_elNode_k5
      refine IN2_next hR.le hi' ⟨hE10.trans hE', ss, ?_⟩
      rw [fullsS_take hi', hone hq]
      simpa using hS10.ext hE'
    have hml2 : ∀ j, j ≤ M[i].length → ((M[i].take j).map (· + 1)).length = j := fun j hj => by rw [List.length_map, List.length_take]; omega
    refine ⟨IN2 M[i].length fun j (o : Sl) w' => OwnL w' w10.heap.size T.t_int o ((M[i].take j).map (· + 1)) ∧ Ext w10 w', MN2 M[i].length, IN2_zero ⟨OwnL.nil _ _ _, Ext.refl _⟩, ?_⟩
    rintro o _ w11 ⟨j, rfl, hj, hO11, hE11⟩
    intros
    have hrow11 := hrow.ext hE11
    have hz11 := hE11.size_le
    have hj2 := hml2 j hj
    refine cond_dec (fun hlt2 => ?_) (fun hge2 => ?_)
    · have hj' : j < M[i].length := by omega
      have hmj := hMi.labs _ (List.getElem_mem hj')
      refine hrow11.ixI hj' fun q _ hc => LD_int hc ?_
      rw [wrap_of (n := M[i][j] + 1) (by omega) (by omega)]
      refine RUN_lit1 (α := Int) slt_int _ rfl (by decide) fun y w12 hE12 hO12 => ?_
      have hO112 := hO11.ext hE12
      refine RUN_append (α := Int) slt_int hO112 (by have := hE12.size_le; omega) (hO12.rep (by intro x hx; rw [List.mem_singleton.1 hx]; show I64 _; unfold I64; omega)).any (by simp; omega) (by simp [maxLen]; omega) fun o' w13 hO13 hs13 => ?_
      refine IN2_next hrow11.le hj' ⟨?_, hs13.ext0 (hE11.trans hE12) fun k hk => (hO112.blk k hk).1⟩
      rw [map_take_succ hj']
      exact hO13
    · have : j = M[i].length := by omega
      subst this
      rw [List.take_length] at hO11
      have hc164 : ∀ x ∈ c1, I64 x := fun x hx => by obtain ⟨m, rfl, hm⟩ := hc1v x hx; unfold I64; omega
      have hc1l : c1.length = p.degree.toNat - 1 := by show (M[i].map (· + 1)).length = _; rw [List.length_map, hMl]
      have hE911 := hE10.trans hE11
      refine LD_iisss (hb5.ext hE911) ?_
      refine call (restM_ok hg (hT.ext hE911) (hO11.rep hc164).any hc1l hc1v) ?_
      rintro _ w14 ⟨rfl, hE14⟩
      have hE1014 := hE11.trans hE14
      have hclt := complM_lt p c1
      have hcI : I64 (complM p c1) := by unfold I64; omega
      have hol : o.len = c1.length := hO11.1
      rw [hol]
      refine cond_eq (fun h0 => hskip hE1014 ?_) (fun hne => ?_)
      · have h0' : complM p (M[i].map (· + 1)) = 0 := h0
        simp [gF, h0']
      · have hne' : complM p (M[i].map (· + 1)) ≠ 0 := hne
        have hk9 : (c1.all fun x => decide (x ≤ complM p c1)) = true → V_s_elNode_k9 (IN2 M.length fun i (out : Sl) w' => Ext w9 w' ∧ ∃ ss, RowsD w' w9.heap.size T.t_int T.t_sl_int out (fullsS p (M.take i)) ss) (MN2 M.length) (i : Int) w10 px5 out o (complM p c1) w14 := fun hall => by
          unfold V_s_elNode_k9
          refine RUN_lit1 (α := Int) slt_int _ rfl (by decide) fun y w15 hE15 hO15 => ?_
          have hO1115 := (hO11.ext hE14).ext hE15
          have hz14 := hE14.size_le
          have hz15 := hE15.size_le
          refine RUN_append (α := Int) slt_int hO1115 (by omega) (hO15.rep (by intro x hx; rw [List.mem_singleton.1 hx]; exact hcI)).any (by simp; omega) (by simp [maxLen]; omega) fun o2 w16 hO16 hs16 => ?_
          have hE1016 : Ext w10 w16 := hs16.ext0 (hE1014.trans hE15) fun k hk => (hO1115.blk k hk).1
          have hc2v : ∀ x ∈ c1 ++ [complM p c1], ∃ m : Nat, x = m ∧ m < 2 ^ p.labels.toNat := fun x hx => by
            rcases List.mem_append.1 hx with h1 | h1
            · exact hc1v x h1
            · rw [List.mem_singleton.1 h1]; exact ⟨(complM p c1).toNat, by omega, by omega⟩
          have hc264 : ∀ x ∈ c1 ++ [complM p c1], I64 x := fun x hx => by obtain ⟨m, rfl, hm⟩ := hc2v x hx; unfold I64; omega
          have hc2l : (c1 ++ [complM p c1]).length = p.degree.toNat := by rw [List.length_append, hc1l]; simp; omega
          have hE916 := hE10.trans hE1016
          refine LD_iisss (hb5.ext hE916) ?_
          refine call (full_ok hg (hT.ext hE916) (hO16.rep hc264).any hc2l hc2v) ?_
          rintro _ w17 ⟨rfl, hE17⟩
          have hE1017 := hE1016.trans hE17
          have hgF : gF p M[i] = fullB p (c1 ++ [complM p c1]) := by
            have hall' : ((M[i].map (· + 1)).all fun x => decide (x ≤ complM p (M[i].map (· + 1)))) = true := hall
            unfold gF
            rw [hall', decide_eq_true hne']
            rfl
          refine cond_b (fun ht => ?_) (fun hff => hskip hE1017 (by rw [hgF, hff]))
          refine RUN_lit1 (α := Sl) slt_rows o2 rfl (by decide) fun y2 w18 hE18 hO18 => ?_
          have hE1018 := hE1017.trans hE18
          have hS18 := hS10.ext hE1018
          have hz10 := hE10.size_le
          have hz18 := hE1018.size_le
          have hfl := fullsS_len (p := p) (M.take i)
          have htl : (M.take i).length ≤ i := by rw [List.length_take]; omega
          have hO17 := (hO16.ext hE17).ext hE18
          refine RUN_append_rowD slt_rows (by decide) hS18 (by omega) (hO17.low hz10) (hS10.fresh hO17 (Nat.le_refl _)) hO18 (by omega) (by unfold maxLen; omega) fun s' w19 hS19 hs19 => ?_
          unfold V_s_elNode_k5
          refine IN2_next hR.le hi' ⟨hs19.ext0 (hE10.trans hE1018) fun k hk => (hS18.own.blk k hk).1, ss ++ [o2], ?_⟩
          rw [fullsS_take hi', hone (q := true) (by rw [hgF, ht])]
          exact hS19
        refine cond_dec (fun hpos => ?_) (fun hz => hk9 (by
          have : c1 = [] := List.eq_nil_of_length_eq_zero (by omega)
          rw [this]; rfl))
        have e3 : IntKind.i64.wrap ((c1.length : Int) - 1) = ((c1.length - 1 : Nat) : Int) := by rw [wrap_of (by omega) (by omega)]; omega
        rw [e3]
        have hlm := last_max hMi (v := complM p c1) (by omega)
        refine ((hO11.rep hc164).any.ext hE14).ixI (i := c1.length - 1) (by show c1.length - 1 < c1.length; omega) fun q _ hc => LD_int hc ?_
        refine cond_dec (fun hlt3 => hskip hE1014 ?_) (fun hge3 => hk9 ?_)
        · have h1 : ((M[i].map (· + 1)).all fun x => decide (x ≤ complM p (M[i].map (· + 1)))) = false := by
            have := hlm
            rw [decide_eq_true hlt3] at this
            exact this
          unfold gF
          rw [h1]; simp
        · rw [decide_eq_false hge3] at hlm
          exact hlm
  · have : i = M.length := by omega
    subst this
    rw [List.take_length] at hS10
    have hBA := byte_congr hmem (node_byte hg)
    have h64A : ∀ r ∈ fullsS p M, ∀ x ∈ r, I64 x := fun r hr x hx => by obtain ⟨m, rfl, hm⟩ := hBA r hr x hx; unfold I64; omega
    have hfl := fullsS_len (p := p) M
    replace hE08 := hE08.ext hE10
    replace h := h.ext hE10
    replace hb1 := hb1.ext hE10
    replace hb2 := hb2.ext hE10
    refine LD_iiss hb1 ?_
    refine call (elMade_ok (k := p.degree.toNat) false h hg (hS10.rep h64A) hBA (fun r hr => node_len r ((hmem r).1 hr)) (by omega) (by omega)) ?_
    rintro x y z u a b w11 hst
    have hmp : madeP p false (fullsS p M) p.degree.toNat = nodeP p := by
      rw [← made_node]
      unfold madeP
      rw [setsOf_congr hmem, ownOf_congr hmem]
    rw [hmp, setsOf_congr hmem] at hst
    have hst' : StIs w10 (nodeP p) (ndFew p) (nodeSets p) x y z u a b w11 := ⟨hst.1, by
      rcases hst.2 with ⟨r1, r2, r3⟩ | ⟨r1, r2⟩
      · exact .inl ⟨r1, ⟨hf, r2⟩, r3⟩
      · exact .inr ⟨r1, fun hA => r2 hA.2⟩⟩
    have hlt2 := hb2.lt
    exact StIs.through hst' hE08 (hb2.ext hst.1) hp2 (by omega) fun w' h => h

theorem elNode_ok {w : World} {c d : Sl} {p : Prob} (h : RProb w c d p) (hg : PGood p) :
    Calls Tryz.prog F.s_elNode #[.agg #[.int .i64 p.labels, .int .i64 p.degree, c.v, d.v]] w (Ret [.agg [.int .i64, .int .i64, .sl, .sl], .at .sl, .at .bool] (StIs w (nodeP p) (ndFew p) (nodeSets p))) := by
  refine C_s_elNode ?_
  unfold V_s_elNode
  refine NEW_intro fun pp w1 hp1 hs1 hE1 hb1 => NEW_intro fun px w2 hp2 hs2 hE2 hb2 => LD_bi1 (hb1.ext hE2) ?_
  have hE := hE1.trans hE2
  have hz1 := hE1.size_le
  replace hb1 := hb1.ext hE2
  have hgo : ¬ (p.degree = 4 ∧ 6 < p.labels) → V_s_elNode_k1 (StIs w (nodeP p) (ndFew p) (nodeSets p)) pp px w2 := fun hfit => elNode_k1_ok hg hfit h hE hb1 hb2 (by omega)
  refine cond_eq (fun h4 => LD_bi0 hb1 (cond_dec (fun h6 => ?_) (fun h6 => hgo fun hh => h6 hh.2))) (fun h4 => hgo fun hh => h4 hh.1)
  exact zero_problem hE hb2 (by omega) fun w' hE' => ⟨hE', .inr ⟨rfl, fun hfew => hfew.1 ⟨h4, h6⟩⟩⟩

theorem NodeStep_ok {w : World} {c d : Sl} {p : Prob} (h : RProb w c d p) (hs : SmallP p) :
    Calls Tryz.prog F.i_NodeStep #[.agg #[.int .i64 p.labels, .int .i64 p.degree, c.v, d.v]] w (Ret [.agg [.int .i64, .int .i64, .sl, .sl], .at .sl, .at .bool] (StIs w (nodeP p) (ndGood p) (nodeSets p))) := by
  refine C_i_NodeStep ?_
  unfold V_i_NodeStep
  refine NEW_intro fun pp w1 hp1 hs1 hE1 hb1 => NEW_intro fun px w2 hp2 hs2 hE2 hb2 => ?_
  have hE := hE1.trans hE2
  have hz1 := hE1.size_le
  replace h := h.ext hE
  replace hb1 := hb1.ext hE2
  refine LD_iiss hb1 ?_
  refine call (IsProblem_ok h) ?_
  rintro x w3 ⟨hx, hE3⟩
  replace hE := hE.ext hE3
  replace h := h.ext hE3
  replace hb1 := hb1.ext hE3
  replace hb2 := hb2.ext hE3
  refine cond_not (fun hf => ?_) (fun ht => LD_iiss hb1 ?_)
  · exact zero_problem hE hb2 (by omega) fun w' hE' => ⟨hE', .inr ⟨rfl, fun hA => by rw [hx.2 hA.1] at hf; cases hf⟩⟩
  · have hg := hx.1 ht
    refine call (nodeStep_ok h hs hg) ?_
    rintro x y z u a b w4 hst
    have hlt2 := hb2.lt
    have hst' : StIs w3 (nodeP p) (ndGood p) (nodeSets p) x y z u a b w4 := ⟨hst.1, by
      rcases hst.2 with ⟨r1, r2, r3⟩ | ⟨r1, r2⟩
      · exact .inl ⟨r1, ⟨hg, r2⟩, r3⟩
      · exact .inr ⟨r1, fun hA => r2 hA.2⟩⟩
    exact StIs.through hst' hE (hb2.ext hst.1) (by omega) hlt2 fun w' h => h


theorem sNodeStep_ok {w : World} {c d : Sl} {p : Prob} (h : RProb w c d p)  :
    Calls Tryz.prog F.s_NodeStep #[.agg #[.int .i64 p.labels, .int .i64 p.degree, c.v, d.v]] w (Ret [.agg [.int .i64, .int .i64, .sl, .sl], .at .sl, .at .bool] (StIs w (nodeP p) (ndGood p) (nodeSets p))) := by
  refine C_s_NodeStep ?_
  unfold V_s_NodeStep
  refine NEW_intro fun pp w1 hp1 hs1 hE1 hb1 => NEW_intro fun px w2 hp2 hs2 hE2 hb2 => ?_
  have hE := hE1.trans hE2
  have hz1 := hE1.size_le
  replace h := h.ext hE
  replace hb1 := hb1.ext hE2
  refine LD_iiss hb1 ?_
  refine call (prGood_ok h) ?_
  rintro x w3 ⟨hx, hE3⟩
  replace hE := hE.ext hE3
  replace h := h.ext hE3
  replace hb1 := hb1.ext hE3
  replace hb2 := hb2.ext hE3
  refine cond_not (fun hf => ?_) (fun ht => LD_iiss hb1 ?_)
  · exact zero_problem hE hb2 (by omega) fun w' hE' => ⟨hE', .inr ⟨rfl, fun hA => by rw [hx.2 hA.1] at hf; cases hf⟩⟩
  · have hg := hx.1 ht
    refine call (elNode_ok h hg) ?_
    rintro x y z u a b w4 hst
    have hlt2 := hb2.lt
    have hst' : StIs w3 (nodeP p) (ndGood p) (nodeSets p) x y z u a b w4 := ⟨hst.1, by
      rcases hst.2 with ⟨r1, r2, r3⟩ | ⟨r1, r2⟩
      · exact .inl ⟨r1, ⟨hg, r2⟩, r3⟩
      · exact .inr ⟨r1, fun hA => r2 hA.2⟩⟩
    exact StIs.through hst' hE (hb2.ext hst.1) (by omega) hlt2 fun w' h => h


end Go.Proofs.YtndebacmnpghkaaGreat
end

section
/- slices.SortStableFunc at []int, for lists of numbers: the pieces of its code (swaps, rotations, insertion, merging) and what they bring about. -/
namespace Go.Proofs.YtndebacmnpghkaaGreat
open Go.GX Go.RowKit
set_option maxRecDepth 100000

/-! ### Places and swaps -/

def gt (l : List Int) (i : Nat) : Int := l.getD i 0
theorem gt_get {l : List Int} {i : Nat} (h : i < l.length) : gt l i = l[i] := by simp [gt, h]
def swp (l : List Int) (p q : Nat) : List Int := (l.set q (gt l p)).set p (gt l q)

theorem swp_perm {l : List Int} {p q : Nat} (hp : p < l.length) (hq : q < l.length) : (swp l p q).Perm l := by
  have := List.set_set_perm hq hp
  unfold swp
  rw [gt_get hp, gt_get hq]
  exact this

/-- The list that is being sorted: in memory, changed in its own block alone, a permutation of the first one. -/
structure Sd (w0 : World) (base : Nat) (s : Sl) (l0 : List Int) (w : World) (l : List Int) : Prop where
  own : OwnL w base T.t_int s l
  chg : Chg w0 w (oB s)
  perm : l.Perm l0

section
variable {w0 w w' : World} {base : Nat} {s : Sl} {l0 l : List Int} {cmp : Value} {key : Int → Int}

theorem Sd.ext (h : Sd w0 base s l0 w l) (hE : Ext w w') : Sd w0 base s l0 w' l := ⟨h.own.ext hE, h.chg.trans (.of_ext hE), h.perm⟩
theorem Sd.len (h : Sd w0 base s l0 w l) : l.length = l0.length := h.perm.length_eq
theorem Sd.mem (h : Sd w0 base s l0 w l) {i : Nat} (hi : i < l0.length) : gt l i ∈ l0 := by
  have hi' : i < l.length := by rw [h.len]; exact hi
  rw [gt_get hi']
  exact h.perm.mem_iff.1 (List.getElem_mem hi')
theorem Sd.rep (h : Sd w0 base s l0 w l) (hI : ∀ x ∈ l0, I64 x) : R w s l := (h.own.rep fun x hx => hI x (h.perm.mem_iff.1 hx)).any
theorem Sd.ix (h : Sd w0 base s l0 w l) (hI : ∀ x ∈ l0, I64 x) {i : Nat} (hi : i < l0.length) {K : Addr → Prop} (hk : ∀ p, w.cell? p = some (.int .i64 (gt l i)) → K p) : IX s i 1 K := by
  have hi' : i < l.length := by rw [h.len]; exact hi
  refine (h.rep hI).ixI hi' fun p _ hc => hk p ?_
  rw [gt_get hi']; exact hc

theorem Sd.swap (h : Sd w0 base s l0 w l) (hI : ∀ x ∈ l0, I64 x) {p q : Nat} (hp : p < l0.length) (hq : q < l0.length) {K : World → Prop} (hk : ∀ w', Sd w0 base s l0 w' (swp l p q) → K w') :
    ∃ D : Nat → Prop, IX s p 1 fun a1 => IX s q 1 fun a2 => ¬ D a1.block ∧ (LD [.int .i64] a1 w fun x => LD [.int .i64] a2 w fun y => Chg w w D ∧ (IX s q 1 fun a3 => GX.ST a3 0 [.int .i64 x] w fun w9 => IX s p 1 fun a4 => GX.ST a4 0 [.int .i64 y] w9 K)) := by
  have hp' : p < l.length := by rw [h.len]; exact hp
  have hq' : q < l.length := by rw [h.len]; exact hq
  refine ⟨fun _ => False, h.ix hI hp fun a1 hc1 => h.ix hI hq fun a2 hc2 => ⟨not_false, LD_int hc1 (LD_int hc2 ⟨Chg.refl _ _, ?_⟩)⟩⟩
  refine IX_own h.own hq' rfl fun p1 hp1 => ST_own h.own hq' hp1 (gt l p) rfl fun w1 hO1 hs1 => ?_
  refine IX_own hO1 (by simpa using hp') rfl fun p2 hp2 => ST_own hO1 (by simpa using hp') hp2 (gt l q) rfl fun w2 hO2 hs2 => ?_
  exact hk w2 ⟨hO2, h.chg.trans ((Chg.of_step hs1 fun k hk => hk).trans (.of_step hs2 fun k hk => hk)), (swp_perm hp' hq').trans h.perm⟩

/-! ### Ranges swapped and rotated -/

/-! ### Order -/

def ltK (key : Int → Int) (x y : Int) : Prop := key x < key y ∨ (key x = key y ∧ x < y)
theorem ltK.trans {key : Int → Int} {x y z : Int} (h : ltK key x y) (k : ltK key y z) : ltK key x z := by
  unfold ltK at *; omega
theorem ltK.le {key : Int → Int} {x y : Int} (h : ltK key x y) : key x ≤ key y := by unfold ltK at h; omega

/-- Sorted between two places. -/
def SIn (key : Int → Int) (l : List Int) (a b : Nat) : Prop := ∀ i j, a ≤ i → i < j → j < b → ltK key (gt l i) (gt l j)
/-- What lies between two places lay there before. -/
def SubIn (l l' : List Int) (a b : Nat) : Prop := ∀ i, a ≤ i → i < b → ∃ j, a ≤ j ∧ j < b ∧ gt l' i = gt l j
def SameOut (l l' : List Int) (a b : Nat) : Prop := ∀ i, (i < a ∨ b ≤ i) → gt l' i = gt l i

theorem SubIn.refl (l : List Int) (a b : Nat) : SubIn l l a b := fun i h1 h2 => ⟨i, h1, h2, rfl⟩
theorem SubIn.trans {l l' l'' : List Int} {a b : Nat} (h : SubIn l l' a b) (k : SubIn l' l'' a b) : SubIn l l'' a b := fun i h1 h2 => by
  obtain ⟨j, h3, h4, h5⟩ := k i h1 h2
  obtain ⟨m, h6, h7, h8⟩ := h j h3 h4
  exact ⟨m, h6, h7, h5.trans h8⟩
theorem SubIn.wide {l l' : List Int} {a b a' b' : Nat} (h : SubIn l l' a b) (ho : SameOut l l' a b) (ha : a' ≤ a) (hb : b ≤ b') : SubIn l l' a' b' := fun i h1 h2 => by
  by_cases hi : a ≤ i ∧ i < b
  · obtain ⟨j, h3, h4, h5⟩ := h i hi.1 hi.2
    exact ⟨j, by omega, by omega, h5⟩
  · exact ⟨i, h1, h2, ho i (by omega)⟩
theorem SameOut.wide {l l' : List Int} {a b a' b' : Nat} (h : SameOut l l' a b) (ha : a' ≤ a) (hb : b ≤ b') : SameOut l l' a' b' := fun i hi => h i (by omega)
theorem SameOut.trans {l l' l'' : List Int} {a b : Nat} (h : SameOut l l' a b) (k : SameOut l' l'' a b) : SameOut l l'' a b := fun i hi => (k i hi).trans (h i hi)

/-- While a number sinks to its place: it lies at place j; the others are sorted; those behind it are greater. -/
structure Sink (key : Int → Int) (l l' : List Int) (a i j : Nat) (x : Int) : Prop where
  at_ : gt l' j = x
  sorted : ∀ p q, a ≤ p → p < q → q ≤ i → p ≠ j → q ≠ j → ltK key (gt l' p) (gt l' q)
  behind : ∀ q, j < q → q ≤ i → ltK key x (gt l' q)
  sub : ∀ p, a ≤ p → p ≤ i → p ≠ j → ∃ m, a ≤ m ∧ m < i ∧ gt l' p = gt l m
  out : ∀ p, (p < a ∨ i < p) → gt l' p = gt l p

/-! ### Merging -/

/-- What is known when the place of the cut is found. -/
structure Cut (key : Int → Int) (l : List Int) (a m b c e : Nat) : Prop where
  ac : a ≤ c
  cm : c ≤ m
  me : m ≤ e
  eb : e ≤ b
  low : ∀ p q, a ≤ p → p < c → e ≤ q → q < b → ltK key (gt l p) (gt l q)
  high : ∀ p q, m ≤ p → p < e → c ≤ q → q < m → key (gt l p) < key (gt l q)

/-- What the rotation leaves: two pairs of sorted ranges, and all of the first pair before all of the second. -/
structure Mid (key : Int → Int) (l l1 : List Int) (a b c e d : Nat) : Prop where
  s11 : SIn key l1 a c
  s12 : SIn key l1 c d
  s21 : SIn key l1 d e
  s22 : SIn key l1 e b
  n1 : ∀ i j, a ≤ i → i < c → c ≤ j → j < d → gt l1 i < gt l1 j
  n2 : ∀ i j, d ≤ i → i < e → e ≤ j → j < b → gt l1 i < gt l1 j
  cross : ∀ p q, a ≤ p → p < d → d ≤ q → q < b → ltK key (gt l1 p) (gt l1 q)
  sub : SubIn l l1 a b
  out : SameOut l l1 a b

/-- Behind the first phase: two blocks at most. -/
def Two (key : Int → Int) (l0 l : List Int) : Prop := (l0.length ≤ 20 → SIn key l 0 l0.length) ∧ (20 < l0.length → SIn key l 0 20 ∧ SIn key l 20 l0.length ∧ SubIn l0 l 0 20 ∧ SubIn l0 l 20 l0.length)

theorem SIn.pairwise {l : List Int} (h : SIn key l 0 l.length) : l.Pairwise (ltK key) := by
  rw [List.pairwise_iff_getElem]
  intro i j hi hj hij
  have := h i j (by omega) hij hj
  rwa [gt_get hi, gt_get hj] at this

end


end Go.Proofs.YtndebacmnpghkaaGreat
end

section
/- Distances in a network, and the search that finds them, in plain words: no program in sight. -/
namespace Go.Proofs.YtndebacmnpghkaaGreat

/-- A walk of k steps from v to x. -/
def Reach (E : Ends) (v : Nat) : Nat → Nat → Prop
  | 0, x => x = v
  | k + 1, x => ∃ y, Reach E v k y ∧ (x : Int) ∈ adjOf E y

/-- The list of all distances from v: -1 where no walk leads. -/
structure Dists (E : Ends) (v : Nat) (D : List Int) : Prop where
  len : D.length = E.length
  low : ∀ u, -1 ≤ D.getD u (-1)
  sound : ∀ u d : Nat, D.getD u (-1) = d → Reach E v d u
  least : ∀ k x, Reach E v k x → 0 ≤ D.getD x (-1) ∧ D.getD x (-1) ≤ k

theorem Dists.eq {E : Ends} {v : Nat} {D D' : List Int} (h : Dists E v D) (h' : Dists E v D') : D = D' := by
  have key : ∀ {A B : List Int}, Dists E v A → Dists E v B → ∀ u, 0 ≤ A.getD u (-1) → 0 ≤ B.getD u (-1) ∧ B.getD u (-1) ≤ A.getD u (-1) := by
    intro A B hA hB u hu
    obtain ⟨d, hd⟩ := Int.eq_ofNat_of_zero_le hu
    have := hB.least d u (hA.sound u d hd)
    rw [hd]
    exact this
  apply List.ext_getElem (by rw [h.len, h'.len])
  intro i h1 h2
  have e1 : D.getD i (-1) = D[i] := by simp [h1]
  have e2 : D'.getD i (-1) = D'[i] := by simp [h2]
  rw [← e1, ← e2]
  have l1 := h.low i
  have l2 := h'.low i
  by_cases hu : 0 ≤ D.getD i (-1)
  · have k1 := key h h' i hu
    have k2 := key h' h i k1.1
    omega
  · by_cases hu' : 0 ≤ D'.getD i (-1)
    · have k2 := key h' h i hu'
      omega
    · omega

/-- The distance of the queue's i-th node. -/
def dv (D W : List Int) (i : Nat) : Int := D.getD (W.getD i 0).toNat (-1)

/-- The search's state: the nodes found so far, in order; their distances; how many have been looked at. -/
structure Bfs (E : Ends) (v : Nat) (W D : List Int) (k : Nat) : Prop where
  len : D.length = E.length
  le : k ≤ W.length
  nodes : ∀ x ∈ W, ∃ u : Nat, x = u ∧ u < E.length
  nodup : W.Nodup
  mem : ∀ u : Nat, u < E.length → ((u : Int) ∈ W ↔ 0 ≤ D.getD u (-1))
  root : (v : Int) ∈ W
  zero : D.getD v (-1) = 0
  low : ∀ u, -1 ≤ D.getD u (-1)
  sound : ∀ u d : Nat, D.getD u (-1) = d → Reach E v d u
  mono : ∀ i j, i ≤ j → j < W.length → dv D W i ≤ dv D W j
  cap : k < W.length → ∀ j < W.length, dv D W j ≤ dv D W k + 1
  done : ∀ i < k, ∀ u : Nat, (u : Int) ∈ adjOf E (W.getD i 0).toNat → 0 ≤ D.getD u (-1) ∧ D.getD u (-1) ≤ dv D W i + 1
  small : ∀ u, D.getD u (-1) < W.length

theorem getD_set {D : List Int} {y : Nat} (hy : y < D.length) (x : Int) (u : Nat) : (D.set y x).getD u (-1) = if u = y then x else D.getD u (-1) := by
  by_cases h : u = y
  · subst h; simp [hy]
  · simp [h, List.getElem?_set_ne (Ne.symm h)]

section
variable {E : Ends} {v k : Nat} {W D : List Int}

theorem Bfs.node (h : Bfs E v W D k) {i : Nat} (hi : i < W.length) : ∃ u : Nat, W[i] = u ∧ W.getD i 0 = u ∧ u < E.length ∧ 0 ≤ D.getD u (-1) ∧ dv D W i = D.getD u (-1) := by
  obtain ⟨u, hu, hul⟩ := h.nodes W[i] (List.getElem_mem hi)
  have hg : W.getD i 0 = u := by simp [hi, hu]
  refine ⟨u, hu, hg, hul, (h.mem u hul).1 (by rw [← hu]; exact List.getElem_mem hi), ?_⟩
  unfold dv
  rw [hg]
  simp

/-- A neighbour that is found now. -/
theorem Bfs.add (h : Bfs E v W D k) (hk : k < W.length) {y : Nat} (hy : y < E.length) (ha : (y : Int) ∈ adjOf E (W.getD k 0).toNat) (hn : D.getD y (-1) < 0) :
    Bfs E v (W ++ [(y : Int)]) (D.set y (dv D W k + 1)) k := by
  have hyD : y < D.length := by rw [h.len]; exact hy
  have hg := getD_set hyD (dv D W k + 1)
  obtain ⟨c, _, hck, hcl, hc0, hcd⟩ := h.node hk
  have hdk : 0 ≤ dv D W k := by omega
  have hold : ∀ i, i < W.length → (W ++ [(y : Int)]).getD i 0 = W.getD i 0 := by
    intro i hi
    simp [List.getElem?_append_left hi]
  have hnew : (W ++ [(y : Int)]).getD W.length 0 = y := by simp
  have hdo : ∀ i, i < W.length → dv (D.set y (dv D W k + 1)) (W ++ [(y : Int)]) i = dv D W i := by
    intro i hi
    obtain ⟨u, _, hu, _, hu0, hud⟩ := h.node hi
    show (D.set y (dv D W k + 1)).getD ((W ++ [(y : Int)]).getD i 0).toNat (-1) = D.getD (W.getD i 0).toNat (-1)
    rw [hold i hi, hu, hg]
    simp only [Int.toNat_natCast]
    rw [if_neg (fun he => by subst he; omega)]
  have hdn : dv (D.set y (dv D W k + 1)) (W ++ [(y : Int)]) W.length = dv D W k + 1 := by
    show (D.set y (dv D W k + 1)).getD ((W ++ [(y : Int)]).getD W.length 0).toNat (-1) = _
    rw [hnew, hg]; simp
  have hyW : (y : Int) ∉ W := fun hm => by have := (h.mem y hy).1 hm; omega
  refine ⟨by simp [h.len], by have := h.le; simp; omega, ?_, ?_, ?_, by simp [h.root], ?_, ?_, ?_, ?_, ?_, ?_, ?_⟩
  · intro x hx
    rcases List.mem_append.1 hx with h1 | h1
    · exact h.nodes x h1
    · exact ⟨y, by simpa using h1, hy⟩
  · rw [List.nodup_append]
    refine ⟨h.nodup, by simp, fun a ha b hb hab => ?_⟩
    rw [List.mem_singleton.1 hb] at hab
    subst hab
    exact hyW ha
  · intro u hu
    rw [hg, List.mem_append, h.mem u hu]
    by_cases he : u = y
    · subst he; simp; omega
    · simp [he]
      omega
  · rw [hg]
    have := h.zero
    rw [if_neg (fun he => by subst he; omega)]
    exact h.zero
  · intro u
    rw [hg]
    split
    · omega
    · exact h.low u
  · intro u d hd
    rw [hg] at hd
    split at hd
    · rename_i he
      subst he
      obtain ⟨e, he⟩ := Int.eq_ofNat_of_zero_le hdk
      obtain rfl : d = e + 1 := by omega
      refine ⟨c, h.sound c e (by rw [← hcd]; exact he), ?_⟩
      rw [hck] at ha
      simpa using ha
    · exact h.sound u d hd
  · intro i j hij hj
    simp at hj
    rcases Nat.lt_or_eq_of_le (Nat.le_of_lt_succ hj) with h1 | h1
    · rw [hdo i (by omega), hdo j h1]; exact h.mono i j hij h1
    · subst h1
      rw [hdn]
      rcases Nat.lt_or_eq_of_le hij with h2 | h2
      · rw [hdo i h2]; exact h.cap hk i h2
      · subst h2; rw [hdn]; exact Int.le_refl _
  · intro _ j hj
    simp at hj
    rw [hdo k hk]
    rcases Nat.lt_or_eq_of_le (Nat.le_of_lt_succ hj) with h1 | h1
    · rw [hdo j h1]; exact h.cap hk j h1
    · subst h1; rw [hdn]; exact Int.le_refl _
  · intro i hi u hu
    rw [hold i (by omega)] at hu
    have := h.done i hi u hu
    rw [hdo i (by omega), hg]
    rw [if_neg (fun he => by subst he; omega)]
    exact this
  · intro u
    rw [hg]
    have h1 := h.small u
    have h2 := h.small c
    simp only [List.length_append, List.length_singleton]
    push_cast
    split <;> omega

/-- All neighbours have been looked at. -/
theorem Bfs.next (h : Bfs E v W D k) (hk : k < W.length) (ha : ∀ u : Nat, (u : Int) ∈ adjOf E (W.getD k 0).toNat → 0 ≤ D.getD u (-1) ∧ D.getD u (-1) ≤ dv D W k + 1) : Bfs E v W D (k + 1) :=
  { h with
    le := hk
    cap := fun hk' j hj => by
      have h1 := h.cap hk j hj
      have h2 := h.mono k (k + 1) (by omega) hk'
      omega
    done := fun i hi u hu => by
      rcases Nat.lt_or_eq_of_le (Nat.le_of_lt_succ hi) with h1 | h1
      · exact h.done i h1 u hu
      · subst h1; exact ha u hu }

theorem adj_lt {y x : Nat} (h : (x : Int) ∈ adjOf E y) : y < E.length := by
  by_cases hy : y < E.length
  · exact hy
  · unfold adjOf rowOf at h
    simp [hy] at h

theorem Bfs.end (h : Bfs E v W D W.length) : Dists E v D := by
  refine ⟨h.len, h.low, h.sound, ?_⟩
  intro j
  induction j with
  | zero =>
    intro x hx
    have hx' : x = v := hx
    subst hx'
    rw [h.zero]
    exact ⟨by omega, by omega⟩
  | succ j ih =>
    rintro x ⟨y, hy, hx⟩
    have hyl := adj_lt hx
    obtain ⟨h0, h1⟩ := ih y hy
    obtain ⟨i, hi, hiy⟩ := List.mem_iff_getElem.1 ((h.mem y hyl).2 h0)
    obtain ⟨u, hu, hug, _, _, hd⟩ := h.node hi
    obtain rfl : u = y := by rw [hiy] at hu; omega
    have := h.done i hi x (by rw [hug]; simpa using hx)
    rw [hd] at this
    refine ⟨this.1, ?_⟩
    have h2 := this.2
    push_cast
    omega

theorem nodup_length : ∀ (n : Nat) (l : List Nat), l.Nodup → (∀ x ∈ l, x < n) → l.length ≤ n
  | 0, l, _, h => by
    cases l with
    | nil => simp
    | cons x r => exact absurd (h x (by simp)) (by omega)
  | n + 1, l, hd, h => by
    have h1 := nodup_length n (l.erase n) (hd.erase n) (fun x hx => by
      have hm := (hd.mem_erase_iff).1 hx
      have := h x hm.2
      omega)
    have h2 : l.length ≤ (l.erase n).length + 1 := by
      rw [List.length_erase]
      split <;> omega
    omega

theorem Bfs.size (h : Bfs E v W D k) : W.length ≤ E.length := by
  have := nodup_length E.length (W.map Int.toNat) (by
    rw [List.nodup_iff_pairwise_ne, List.pairwise_map]
    refine (List.nodup_iff_pairwise_ne.1 h.nodup).imp_of_mem ?_
    intro a b ha hb hab he
    obtain ⟨x, rfl, _⟩ := h.nodes a ha
    obtain ⟨y, rfl, _⟩ := h.nodes b hb
    simp at he
    exact hab (by omega)) (by
    intro x hx
    obtain ⟨a, ha, rfl⟩ := List.mem_map.1 hx
    obtain ⟨u, rfl, hu⟩ := h.nodes a ha
    simpa using hu)
  simpa using this
end

end Go.Proofs.YtndebacmnpghkaaGreat
end

section
/- The reference's distances from a node. -/
namespace Go.Proofs.YtndebacmnpghkaaGreat
open Go.GX Go.RowKit
set_option maxRecDepth 100000

/-- What the search keeps in memory: distances, queue, apart from each other. -/
structure BfsMem (w1 w' : World) (b1 b2 : Nat) (E : Ends) (v : Nat) (sD sW : Sl) (D W : List Int) (k : Nat) : Prop where
  ext : Ext w1 w'
  dist : OwnL w' b1 T.t_int sD D
  queue : OwnL w' b2 T.t_int sW W
  bfs : Bfs E v W D k
  lo1 : w1.heap.size ≤ b1
  lo12 : b1 ≤ b2
  lo2 : b2 ≤ w'.heap.size
  sep : ∀ g, sD.v.ownBlock = some g → g < b2

theorem BfsMem.next {w1 w' w'' : World} {b1 b2 : Nat} {E : Ends} {v : Nat} {sD sW : Sl} {D W : List Int} {k : Nat} (h : BfsMem w1 w' b1 b2 E v sD sW D W k) (hE : Ext w' w'') : BfsMem w1 w'' b1 b2 E v sD sW D W k :=
  { h with ext := h.ext.trans hE, dist := h.dist.ext hE, queue := h.queue.ext hE, lo2 := Nat.le_trans h.lo2 hE.size_le }

end Go.Proofs.YtndebacmnpghkaaGreat
end

section
/- Dominating sets: both sides' tests. -/
namespace Go.Proofs.YtndebacmnpghkaaGreat
open Go.GX Go.RowKit
set_option maxRecDepth 100000

/-! ### The program's side -/

def upTo (n : Nat) : List Int := (List.range n).map fun (k : Nat) => (k : Int)

end Go.Proofs.YtndebacmnpghkaaGreat
end

section
/- Configuration maps, in plain words: no program in sight. -/
namespace Go.Proofs.YtndebacmnpghkaaGreat
open Go.GX

theorem EdgeIs.symm {p : Prob} {a b : Int} (h : EdgeIs p a b) : EdgeIs p b a := by
  unfold EdgeIs at h ⊢
  rw [sort2] at h ⊢
  by_cases h1 : a ≤ b
  · rw [if_pos h1] at h
    by_cases h2 : b ≤ a
    · have : a = b := by omega
      subst this
      rwa [if_pos h2]
    · rwa [if_neg h2]
  · rw [if_neg h1] at h
    rwa [if_pos (by omega)]

/-- The labels of configurations beside those of their rows. -/
def pairsOf (C R : List (List Int)) : List (Int × Int) := (C.zip R).flatMap fun u => u.1.zip u.2

structure CmOk (p q : Prob) (rows : List (List Int)) : Prop where
  len : rows.length = p.nodes.length
  row : ∀ r ∈ rows, (r.length : Int) = q.degree ∧ AllIn r 0 (q.labels - 1) ∧ NodeOk q r
  pairs : ∀ u ∈ pairsOf p.nodes rows, ∀ v ∈ pairsOf p.nodes rows, EdgeIs p u.1 v.1 → EdgeIs q u.2 v.2

/-! ### Places -/

structure McAsked (p q : Prob) (rows : List (List Int)) (n : Net) (L : List (List Int)) : Prop where
  left : PGood p
  right : PGood q
  deg : p.degree = q.degree
  map : CmOk p q rows
  good : Good n
  lab : LabOk p n.ends L
  clean : Clean p n.ends L
  full : ∀ r ∈ L, (r.length : Int) = p.degree

end Go.Proofs.YtndebacmnpghkaaGreat
end

section
/- Configuration maps, both sides. -/
namespace Go.Proofs.YtndebacmnpghkaaGreat
open Go.GX Go.RowKit
set_option maxRecDepth 100000

/-! ### Two slices of the call's own that lie apart -/

def Aside (s t : Sl) : Prop := ∀ k, s.v.ownBlock = some k → t.v.ownBlock ≠ some k

theorem Aside.symm {s t : Sl} (h : Aside s t) : Aside t s := fun k hk hk' => h k hk' hk

theorem Aside.new {w : World} {base : Nat} {s s' t : Sl} {l : List Int} (h : Aside s t) (ht : OwnL w base T.t_int t l) (hn : NewOr w s s') : Aside s' t := fun k hk hk' => by
  rcases hn with h1 | h1
  · exact h k (by rw [← h1]; exact hk) hk'
  · have h2 := h1 k hk
    have h3 := (ht.blk k hk').2
    omega

/-! ### Whether it is a configuration map: the program -/

/-! ### Whether it is a solution -/

theorem isSolution_ok {w : World} {c d a b e s : Sl} {p : Prob} {n : Net} {L : List (List Int)} (hq : RProb w c d p) (hs : SmallP p) (hp : PGood p) (hg : Good n) (h : RNet w a b e n) (hl : R w s L) :
    Calls Tryz.prog F.i_isSolution #[.agg #[.int .i64 p.labels, .int .i64 p.degree, c.v, d.v], .agg #[a.v, b.v, e.v], s.v] w (Ret [.at .bool] fun (x : Bool) w' => (x = true ↔ LabOk p n.ends L ∧ Clean p n.ends L) ∧ Ext w w') := by
  refine C_i_isSolution ?_
  unfold V_i_isSolution
  refine NEW_intro fun pp w1 hp1 hs1 hE1 hb1 => NEW_intro fun pn w2 hp2 hs2 hE2 hb2 => LD_iiss (hb1.ext hE2) (LD_box3 hb2 ?_)
  have hE := hE1.trans hE2
  replace hq := hq.ext hE
  replace h := h.ext hE
  replace hl := hl.ext hE
  replace hb1 := hb1.ext hE2
  refine call (isLabeling_ok hq hp h hl) ?_
  rintro z w5 ⟨hz, hE5⟩
  replace hE := hE.ext hE5
  replace hq := hq.ext hE5
  replace h := h.ext hE5
  replace hl := hl.ext hE5
  replace hb1 := hb1.ext hE5
  replace hb2 := hb2.ext hE5
  refine cond_not (fun hf => ⟨(by simp only [Bool.false_eq_true, false_iff]; intro hA; rw [hz.2 hA.1] at hf; cases hf), hE⟩) (fun ht3 => LD_iiss hb1 (LD_box3 hb2 ?_))
  have hA : SolAsked p n L := ⟨hp, hg, hz.1 ht3⟩
  refine call (labelFault_ok hq hs hA.fin h hl) ?_
  rintro v i f w6 ⟨hf, hE6⟩
  refine ⟨?_, hE.trans hE6⟩
  rcases hf with ⟨rfl, hfa⟩ | ⟨rfl, _, _, hcl⟩
  · simp only [Bool.not_true, Bool.false_eq_true, false_iff]
    exact fun h => hfa.bad h.2
  · simp only [Bool.not_false, true_iff]
    exact ⟨hA.lab, hcl⟩

end Go.Proofs.YtndebacmnpghkaaGreat
end

section
/- Solutions pulled back through the edge step, both sides. -/
namespace Go.Proofs.YtndebacmnpghkaaGreat
open Go.GX Go.RowKit
set_option maxRecDepth 100000

/-! ### In plain words -/

theorem firstC_congr {P P' : List Int → Bool} : ∀ {ls : List (List Int)} {pre : List Int}, (∀ e ∈ prodL ls, P (pre ++ e) = P' (pre ++ e)) → firstC P ls pre = firstC P' ls pre
  | [], pre, h => by
    have := h [] (by simp [prodL])
    rw [List.append_nil] at this
    rw [firstC, firstC, this]
  | l :: ls, pre, h => by
    rw [firstC, firstC]
    have : ∀ m : List Int, (∀ a ∈ m, a ∈ l) → m.findSome? (fun a => firstC P ls (pre ++ [a])) = m.findSome? (fun a => firstC P' ls (pre ++ [a])) := by
      intro m
      induction m with
      | nil => simp
      | cons a m ih =>
        intro hm
        have e1 : firstC P ls (pre ++ [a]) = firstC P' ls (pre ++ [a]) := firstC_congr fun e he => by
          have := h (a :: e) (by simp only [prodL, List.mem_flatMap, List.mem_map]; exact ⟨a, hm a (by simp), e, he, rfl⟩)
          simpa using this
        rw [List.findSome?_cons, List.findSome?_cons, e1, ih fun x hx => hm x (List.mem_cons_of_mem _ hx)]
    exact this l fun a ha => ha

theorem firstC_heads {P : List Int → Bool} : ∀ {ls : List (List Int)} {pre : List Int}, (∀ l ∈ ls, l ≠ []) → (∀ e ∈ prodL ls, P (pre ++ e) = true) → firstC P ls pre = some (pre ++ ls.map (·.headD 0))
  | [], pre, _, h => by
    have := h [] (by simp [prodL])
    rw [List.append_nil] at this
    rw [firstC, if_pos this]; simp
  | l :: ls, pre, hne, h => by
    have hl := hne l (by simp)
    cases l with
    | nil => exact absurd rfl hl
    | cons a l =>
      have e1 : firstC P ls (pre ++ [a]) = some (pre ++ [a] ++ ls.map (·.headD 0)) := firstC_heads (fun m hm => hne m (List.mem_cons_of_mem _ hm)) fun e he => by
        have := h (a :: e) (by simp only [prodL, List.mem_flatMap, List.mem_map]; exact ⟨a, by simp, e, he, rfl⟩)
        simpa using this
      rw [firstC, List.findSome?_cons, e1]
      simp

/-- The labels that a node takes from sets. -/
def pullRow (p : Prob) (S r : List Int) : List Int := if (r.length : Int) = p.degree then (firstC (nodeB p) (listsAt S r) []).getD [] else (listsAt S r).map (·.headD 0)

/-- What is known of a node's labels. -/
structure PullOk (p : Prob) (S r : List Int) : Prop where
  labs : ∀ x ∈ r, 0 ≤ x ∧ x < (S.length : Nat)
  len : r.length ≤ 1000
  some : (r.length : Int) = p.degree → (firstC (nodeB p) (listsAt S r) []).isSome = true

structure SetsOk (S : List Int) : Prop where
  pos : ∀ x ∈ S, ∃ m : Nat, x = m ∧ 1 ≤ m ∧ m < 256

theorem SetsOk.byte {S : List Int} (h : SetsOk S) : ∀ x ∈ S, ∃ m : Nat, x = m ∧ m < 256 := fun x hx => by
  obtain ⟨m, h1, _, h3⟩ := h.pos x hx
  exact ⟨m, h1, h3⟩

theorem labs_ne_nil {m : Nat} (h1 : 1 ≤ m) (h2 : m < 256) : labsOf m ≠ [] := fun he => by
  have hb : ∀ a, m.testBit a = false := fun a => by
    by_cases ha : a < 8
    · cases hh : m.testBit a with
      | false => rfl
      | true =>
        have : ((a : Nat) : Int) ∈ labsOf m := mem_labsOf.2 ⟨a, rfl, ha, hh⟩
        rw [he] at this; cases this
    · have h3 : (2 : Nat) ^ 8 = 256 := by decide
      have h4 : 2 ^ 8 ≤ 2 ^ a := Nat.pow_le_pow_right (by decide) (by omega)
      exact Nat.testBit_lt_two_pow (by omega)
  have : m = 0 := Nat.eq_of_testBit_eq fun i => by rw [hb i]; simp
  omega

theorem lists_ne {S r : List Int} (hS : SetsOk S) (hr : ∀ x ∈ r, 0 ≤ x ∧ x < (S.length : Nat)) : ∀ l ∈ listsAt S r, l ≠ [] := fun l hl => by
  obtain ⟨x, hx, rfl⟩ := List.mem_map.1 hl
  have h1 := hr x hx
  have h2 : x.toNat < S.length := by omega
  obtain ⟨m, hm, hm1, hm2⟩ := hS.pos _ (List.getElem_mem h2)
  have e : S.getD x.toNat 0 = m := by simp [h2, hm]
  rw [e, Int.toNat_natCast]
  exact labs_ne_nil hm1 hm2

theorem listsAt_len (S r : List Int) : (listsAt S r).length = r.length := by simp [listsAt]

/-- The program's choice. -/
theorem pull_choice {p : Prob} {S r : List Int} (hS : SetsOk S) (hr : PullOk p S r) : firstC (fun c => !(decide ((c.length : Int) = p.degree)) || nodeB p c) (listsAt S r) [] = some (pullRow p S r) := by
  unfold pullRow
  by_cases hd : (r.length : Int) = p.degree
  · rw [if_pos hd]
    have h1 := hr.some hd
    rw [firstC_congr (P' := nodeB p) fun e he => by
      have hl : (([] ++ e : List Int).length : Int) = p.degree := by rw [List.nil_append, prodL_len he, listsAt_len]; exact hd
      rw [hl]; simp]
    cases hG : firstC (nodeB p) (listsAt S r) [] with
    | some c => rfl
    | none => rw [hG] at h1; cases h1
  · rw [if_neg hd, firstC_heads (lists_ne hS hr.labs) fun e he => by
      have hl : ¬ (e.length : Int) = p.degree := by rw [prodL_len he, listsAt_len]; exact hd
      rw [List.nil_append]
      simp [hl]]
    simp

theorem pullRow_len {p : Prob} {S r : List Int} (hr : PullOk p S r) : (pullRow p S r).length = r.length := by
  unfold pullRow
  by_cases hd : (r.length : Int) = p.degree
  · rw [if_pos hd]
    have h1 := hr.some hd
    cases hG : firstC (nodeB p) (listsAt S r) [] with
    | some c =>
      obtain ⟨_, e, he, rfl⟩ := firstC_spec hG
      simp only [Option.getD_some]
      rw [prodL_len he, listsAt_len]
    | none => rw [hG] at h1; cases h1
  · rw [if_neg hd, List.length_map, listsAt_len]

theorem two2_mem {c : List Int} {ls : List (List Int)} (h : Two2 (fun x l => x ∈ l) c ls) : ∀ x ∈ c, ∃ l ∈ ls, x ∈ l := by
  induction h with
  | nil => intro x hx; cases hx
  | cons h1 h2 ih =>
    intro x hx
    rcases List.mem_cons.1 hx with rfl | hx
    · exact ⟨_, by simp, h1⟩
    · obtain ⟨l, hl, hxl⟩ := ih x hx
      exact ⟨l, List.mem_cons_of_mem _ hl, hxl⟩

theorem pullRow_labs {p : Prob} {S r : List Int} (hS : SetsOk S) (hr : PullOk p S r) : ∀ x ∈ pullRow p S r, 0 ≤ x ∧ x < 8 := by
  obtain ⟨_, e, he, hce⟩ := firstC_spec (pull_choice hS hr)
  rw [List.nil_append] at hce
  rw [hce]
  intro x hx
  obtain ⟨l, hl, hxl⟩ := two2_mem (mem_prodL.1 he) x hx
  obtain ⟨y, _, rfl⟩ := List.mem_map.1 hl
  obtain ⟨a, rfl, ha, _⟩ := mem_labsOf.1 hxl
  omega

/-! ### The program -/

theorem pullEdge1_ok {w w' : World} {c d t : Sl} {p : Prob} {pp : Addr} {t0 : TypeId} {l : List Int} (h : RProb w c d p) (hs : SmallP p) (hg : PGood p) (hb : Box w pp t0 [.int .i64 p.labels, .int .i64 p.degree, c.v, d.v]) (hE : Ext w w') (hl : R w' t l) (hll : l.length ≤ 1000) :
    CALLV Tryz.prog (.func (.func F.i_pullEdgeStep_1) #[] #[.pointer (some pp)]) #[t.v] w' (Ret [.at .bool] fun (b : Bool) w'' => b = (!(decide ((l.length : Int) = p.degree)) || nodeB p l) ∧ Ext w' w'') := by
  refine CALLV_mk (by kernel_rfl) (C_i_pullEdgeStep_1 ?_)
  unfold V_i_pullEdgeStep_1
  refine LD_bi1 (hb.ext hE) ?_
  rw [hl.len]
  refine cond_ne (fun hne => ⟨?_, Ext.refl _⟩) (fun heq => LD_iiss (hb.ext hE) ?_)
  · have hne' : ¬ (l.length : Int) = p.degree := hne
    simp [hne']
  · have heq' : (l.length : Int) = p.degree := heq
    refine call (node_ok (h.ext hE) hs hg hl (by omega)) ?_
    rintro x w1 ⟨hx, hE1⟩
    refine ⟨?_, hE1⟩
    rw [bool_of hx nodeB_iff]
    simp [heq']

theorem pullEdgeStep_ok {w : World} {c d s t : Sl} {p : Prob} {S : List Int} {L : List (List Int)} (h : RProb w c d p) (hs : SmallP p) (hg : PGood p) (hS : R w s S) (hSo : SetsOk S) (hL : R w t L) (hr : ∀ r ∈ L, PullOk p S r) (hl : L.length ≤ 1048576) :
    Calls Tryz.prog F.i_pullEdgeStep #[.agg #[.int .i64 p.labels, .int .i64 p.degree, c.v, d.v], s.v, t.v] w (Ret [.at .sl, .at .bool] fun (r : Sl) (b : Bool) w' => Ext w w' ∧ b = true ∧ OutM w.heap.size w' r (L.map (pullRow p S))) := by
  refine C_i_pullEdgeStep ?_
  unfold V_i_pullEdgeStep
  refine NEW_intro fun pp w1 hp1 hs1 hE1 hb1 => ?_
  replace h := h.ext hE1
  replace hS := hS.ext hE1
  replace hL := hL.ext hE1
  rw [hL.len]
  refine ⟨IN2 L.length fun i (out : Sl) w' => Ext w1 w' ∧ ∃ ss, RowsD w' w1.heap.size T.t_int T.t_sl_int out ((L.take i).map (pullRow p S)) ss, MN2 L.length, IN2_zero ⟨Ext.refl _, [], by simpa using RowsD.nil _ _ _ _⟩, ?_⟩
  rintro out _ w2 ⟨i, rfl, hi, hE2, ss, hR⟩
  intros
  refine cond_dec (fun hlt => ?_) (fun hge => ?_)
  · have hi' : i < L.length := by omega
    have hri := hr _ (List.getElem_mem hi')
    refine (hL.ext hE2).ixL hi' fun q row hrow hc => LD_sl hc ?_
    refine call (listsOf_ok (hS.ext hE2) hrow.any hSo.byte hri.labs hri.len) ?_
    rintro x w3 ⟨hE3, ss3, hR3⟩
    have h64 : ∀ r ∈ listsAt S L[i], ∀ x ∈ r, I64 x := fun r hr x hx => by
      obtain ⟨y, _, rfl⟩ := List.mem_map.1 hr
      exact labsOf_I64 _ x hx
    have hE13 := hE2.trans hE3
    refine call (firstChoice_ok (P := fun c => !(decide ((c.length : Int) = p.degree)) || nodeB p c) (hR3.rep h64) (by rw [listsAt_len]; exact hri.len) fun e he w' r hE' hr' => pullEdge1_ok (h.ext hE13) hs hg (hb1.ext hE13) hE' hr' (by rw [he, listsAt_len]; exact hri.len)) ?_
    rintro y b w4 ⟨hE4, hm⟩
    rw [pull_choice hSo hri] at hm
    obtain ⟨rfl, hO4⟩ := hm
    refine cond_f rfl ?_
    refine RUN_lit1 (α := Sl) slt_rows y rfl (by decide) fun u w5 hE5 hO5 => ?_
    have hE25 := (hE3.trans hE4).trans hE5
    have hR5 := hR.ext hE25
    have hz2 := hE2.size_le
    have hz3 := hE3.size_le
    have hz5 := hE25.size_le
    have hll : ((L.take i).map (pullRow p S)).length = i := by rw [List.length_map, List.length_take]; omega
    refine RUN_append_rowD slt_rows (by decide) hR5 (by omega) ((hO4.ext hE5).low (by omega)) ((hR.ext hE3).fresh (hO4.ext hE5) (Nat.le_refl _)) hO5 (by omega) (by unfold maxLen; omega) fun s' w6 hR6 hs6 => ?_
    refine IN2_next hL.le hi' ⟨hs6.ext0 (hE2.trans hE25) fun k hk => (hR5.own.blk k hk).1, ss ++ [y], ?_⟩
    rw [map_take_succ hi']
    exact hR6
  · have : i = L.length := by omega
    subst this
    rw [List.take_length] at hR
    refine ⟨hE1.trans hE2, rfl, ⟨⟨ss, hR.low hE1.size_le⟩, fun r hr' x hx => ?_, by simpa using hl, fun r hr' => ?_⟩⟩
    · obtain ⟨l, hl', rfl⟩ := List.mem_map.1 hr'
      have := pullRow_labs hSo (hr l hl') x hx
      unfold I64; omega
    · obtain ⟨l, hl', rfl⟩ := List.mem_map.1 hr'
      rw [pullRow_len (hr l hl')]
      have := (hr l hl').len
      omega

end Go.Proofs.YtndebacmnpghkaaGreat
end

section
/- Solutions pulled back through the edge step: the reference, and what is asked. -/
namespace Go.Proofs.YtndebacmnpghkaaGreat
open Go.GX Go.RowKit
set_option maxRecDepth 100000

/-- Slices that read as lists, apart from the slice that holds them. -/
def AlD (w : World) (s : Sl) (ss : List Sl) (L : List (List Int)) : Prop := ss.length = L.length ∧ ∀ i (h1 : i < ss.length) (h2 : i < L.length), SlR (fun b => ¬ oB s b) w ss[i] L[i]

theorem AlD.ext {w w' : World} {s : Sl} {ss : List Sl} {L : List (List Int)} (h : AlD w s ss L) (hE : Ext w w') : AlD w' s ss L := ⟨h.1, fun i h1 h2 => (h.2 i h1 h2).ext hE⟩

/-- One more row that reads as a list. -/
theorem add_al {w : World} {base : Nat} {s x : Sl} {ss : List Sl} {L : List (List Int)} {xl : List Int} (h : OwnL w base T.t_sl_int s ss) (ha : AlD w s ss L) (hx : SlR (fun b => ¬ oB s b) w x xl) (hb : base ≤ w.heap.size) (hl : L.length < 1048576) {K : Sl → World → Prop}
    (hk : ∀ s' w', OwnL w' base T.t_sl_int s' (ss ++ [x]) → AlD w' s' (ss ++ [x]) (L ++ [xl]) → (∀ w0, Ext w0 w → w0.heap.size ≤ base → Ext w0 w') → K s' w') :
    RUN Tryz.prog (.at .sl) (Instr.buildSlice T.t_sl_sl_int 1 #[(0, x.v)]) w fun (y : Sl) w1 =>
    RUN Tryz.prog (.at .sl) (bsem .append #[T.t_sl_sl_int, T.t_sl_sl_int] T.t_sl_sl_int #[s.v, y.v]) w1 K := by
  have hls := ha.1
  refine RUN_lit1 (α := Sl) slt_rows x rfl (by decide) fun y w1 hE1 hO1 => ?_
  refine RUN_appendF (α := Sl) slt_rows (h.ext hE1) (by have := hE1.size_le; omega) (hO1.rep fun _ _ => trivial).any (by simp; omega) (by simp [maxLen]; omega) fun s' w2 hO2 hs2 hn2 => ?_
  have hst : ∀ {r : Sl} {l : List Int}, SlR (fun b => ¬ oB s b) w r l → SlR (fun b => ¬ oB s' b) w2 r l := fun {r l} hr => by
    refine ((hr.ext hE1).below.stepD hs2 fun b hb he => hb.1 he).weak (fun b hb _ hos => ?_) RepP.pos
    rcases hn2 with h1 | h1
    · exact hb.1 (by unfold oB at hos ⊢; rw [← h1]; exact hos)
    · have := h1 b hos; have := hb.2; omega
  refine hk s' w2 hO2 ⟨by simp; omega, fun i h1 h2 => ?_⟩ fun w0 h0 hz => hs2.ext0 (h0.trans hE1) fun k hk => by have := ((h.ext hE1).blk k hk).1; omega
  by_cases hi : i < ss.length
  · rw [List.getElem_append_left hi, List.getElem_append_left (by omega)]
    exact hst (ha.2 i hi (by omega))
  · simp only [List.length_append, List.length_cons, List.length_nil] at h1 h2
    have : i = ss.length := by omega
    subst this
    rw [List.getElem_append_right (by omega), List.getElem_append_right (by omega)]
    simp only [hls, Nat.sub_self, List.getElem_cons_zero]
    exact hst hx

theorem head_get {l : List Int} (h : 0 < l.length) : l.headD 0 = l[0] := by cases l with | nil => cases h | cons x l => rfl

theorem elPullEdge_ok {w : World} {c d s t : Sl} {p : Prob} {S : List Int} {L : List (List Int)} (h : RProb w c d p) (hg : PGood p) (hS : R w s S) (hSo : SetsOk S) (hL : R w t L) (hr : ∀ r ∈ L, PullOk p S r) (hl : L.length ≤ 1048576) :
    Calls Tryz.prog F.s_elPullEdge #[.agg #[.int .i64 p.labels, .int .i64 p.degree, c.v, d.v], s.v, t.v] w (Ret [.at .sl] fun (r : Sl) w' => Ext w w' ∧ R w' r (L.map (pullRow p S))) := by
  refine C_s_elPullEdge ?_
  unfold V_s_elPullEdge
  refine NEW_intro fun pp w1 hp1 hs1 hE1 hb1 => ?_
  replace h := h.ext hE1
  replace hS := hS.ext hE1
  replace hL := hL.ext hE1
  rw [hL.len]
  have hd := hg.deg
  refine ⟨IN2 L.length fun i (out : Sl) w' => Ext w1 w' ∧ ∃ ss, OwnL w' w1.heap.size T.t_sl_int out ss ∧ AlD w' out ss ((L.take i).map (pullRow p S)), MN2 L.length, IN2_zero ⟨Ext.refl _, [], OwnL.nil _ _ _, by simp [AlD]⟩, ?_⟩
  rintro out _ w2 ⟨i, rfl, hi, hE2, ss, hO2, hA2⟩
  intros
  refine cond_dec (fun hlt => ?_) (fun hge => ?_)
  · have hi' : i < L.length := by omega
    have hri := hr _ (List.getElem_mem hi')
    have hrl := hri.len
    have hz2 := hE2.size_le
    refine (hL.ext hE2).ixL hi' fun q row hrow hc => LD_sl hc ?_
    refine call (coThrough_ok (hS.ext hE2) hrow.any (fun x hx => ?_) (by omega)) ?_
    · have := hri.labs x hx
      exact ⟨x.toNat, by omega, by omega⟩
    rintro a w3 ⟨hE3, hA3⟩
    have hab : ∀ y ∈ L[i].map fun x => S.getD x.toNat 0, ∃ m : Nat, y = m ∧ 1 ≤ m ∧ m < 256 := fun y hy => by
      obtain ⟨z, hz, rfl⟩ := List.mem_map.1 hy
      have := hri.labs z hz
      have hz' : z.toNat < S.length := by omega
      simp only [List.getD_eq_getElem?_getD, List.getElem?_eq_getElem hz', Option.getD_some]
      exact hSo.pos _ (List.getElem_mem hz')
    have ha64 : ∀ y ∈ L[i].map fun x => S.getD x.toNat 0, I64 y := fun y hy => by obtain ⟨m, rfl, _, hm⟩ := hab y hy; unfold I64; omega
    have hRa := (hA3.rep ha64).any
    refine LD_bs2 (hb1.ext (hE2.trans hE3)) ?_
    refine call (elChoice_ok (good := p.nodes) (fun x hx => by obtain ⟨m, h1, _, h3⟩ := hab x hx; exact ⟨m, h1, h3⟩) (by rw [List.length_map]; omega) _ (ch := ⟨none, 0, 0⟩) (pre := []) (by simp; rfl) (h.nodes.ext (hE2.trans hE3)) hRa (D := fun _ => False) (nil_at w3 _)) ?_
    rintro r4 b w4 ⟨hE4, hm⟩
    have e1 : (((L[i].map fun x => S.getD x.toNat 0).drop ([] : List Int).length).map fun x => labsOf x.toNat) = listsAt S L[i] := by simp [listsAt]
    rw [e1] at hm
    have hE24 := hE3.trans hE4
    refine LD_bi1 (hb1.ext (hE2.trans hE24)) ?_
    rw [hrow.len]
    have fin : ∀ {w5 : World} {x : Sl}, Ext w2 w5 → SlR (fun b => w2.heap.size ≤ b) w5 x (pullRow p S L[i]) → V_s_elPullEdge_k4 (IN2 L.length fun i (out : Sl) w' => Ext w1 w' ∧ ∃ ss, OwnL w' w1.heap.size T.t_sl_int out ss ∧ AlD w' out ss ((L.take i).map (pullRow p S))) (MN2 L.length) (i : Int) w2 out x w5 := fun {w5 x} hE5 hx => by
      unfold V_s_elPullEdge_k4
      have hll : ((L.take i).map (pullRow p S)).length = i := by rw [List.length_map, List.length_take]; omega
      have hz5 := hE5.size_le
      refine add_al (hO2.ext hE5) (hA2.ext hE5) (hx.weak (fun b hb _ hos => by have := (hO2.blk b hos).2; omega) RepP.pos) (by omega) (by omega) fun s' w6 hO6 hA6 hX6 => ?_
      refine IN2_next hL.le hi' ⟨hX6 w1 (hE2.trans hE5) (Nat.le_refl _), _, hO6, ?_⟩
      rw [map_take_succ hi']
      exact hA6
    have hgo : ∀ {w5 : World}, Ext w4 w5 → ¬ (L[i].length : Int) = p.degree → V_s_elPullEdge_k5 (IN2 L.length fun i (out : Sl) w' => Ext w1 w' ∧ ∃ ss, OwnL w' w1.heap.size T.t_sl_int out ss ∧ AlD w' out ss ((L.take i).map (pullRow p S))) (MN2 L.length) (i : Int) w2 r4 out a true w5 := fun {w5} hE5 hne => by
      unfold V_s_elPullEdge_k5
      refine cond_t rfl ?_
      have hRa5 := (hRa.ext hE4).ext hE5
      rw [hRa5.len]
      let g : Int → Int := fun y => (labsOf y.toNat).headD 0
      refine ⟨IN2 (L[i].map fun x => S.getD x.toNat 0).length fun j (o : Sl) w' => Ext w5 w' ∧ OwnL w' w5.heap.size T.t_int o (((L[i].map fun x => S.getD x.toNat 0).take j).map g), MN2 (L[i].map fun x => S.getD x.toNat 0).length, IN2_zero ⟨Ext.refl _, OwnL.nil _ _ _⟩, ?_⟩
      rintro o _ w6 ⟨j, rfl, hj, hE6, hO6⟩
      intros
      refine cond_dec (fun hlt2 => ?_) (fun hge2 => ?_)
      · have hj' : j < (L[i].map fun x => S.getD x.toNat 0).length := by omega
        refine (hRa5.ext hE6).ixI hj' fun q _ hc => LD_int hc ?_
        obtain ⟨m, hm1, hm2, hm3⟩ := hab _ (List.getElem_mem hj')
        rw [hm1]
        refine call (elLabels_ok m w6) ?_
        rintro u w7 ⟨hE7, hO7⟩
        have hne2 := labs_ne_nil hm2 hm3
        have hpos : 0 < (labsOf m).length := List.length_pos_iff.2 hne2
        refine (hO7.rep (labsOf_I64 m)).any.ixI (i := 0) hpos fun q _ hc => LD_int hc ?_
        refine RUN_lit1 (α := Int) slt_int _ rfl (by decide) fun y w8 hE8 hO8 => ?_
        have hO68 := (hO6.ext hE7).ext hE8
        have hlj : (((L[i].map fun x => S.getD x.toNat 0).take j).map g).length = j := by rw [List.length_map, List.length_take]; omega
        have hli : (L[i].map fun x => S.getD x.toNat 0).length = L[i].length := List.length_map ..
        have hz := hE6.size_le
        refine RUN_append (α := Int) slt_int hO68 (by have := hE7.size_le; have := hE8.size_le; omega) (hO8.rep (by intro x hx; rw [List.mem_singleton.1 hx]; exact labsOf_I64 m _ (List.getElem_mem hpos))).any (by simp; omega) (by simp [maxLen]; omega) fun r w9 hO9 hs9 => ?_
        refine IN2_next hRa5.le hj' ⟨hs9.ext0 (hE6.trans (hE7.trans hE8)) fun k hk => (hO68.blk k hk).1, ?_⟩
        rw [map_take_succ hj']
        have e : g (L[i].map fun x => S.getD x.toNat 0)[j] = (labsOf m)[0] := by
          show (labsOf ((L[i].map fun x => S.getD x.toNat 0)[j]).toNat).headD 0 = _
          rw [hm1, Int.toNat_natCast]
          exact head_get hpos
        rw [e]
        exact hO9
      · have : j = (L[i].map fun x => S.getD x.toNat 0).length := by omega
        subst this
        rw [List.take_length] at hO6
        have hpr : pullRow p S L[i] = (L[i].map fun x => S.getD x.toNat 0).map g := by
          unfold pullRow
          rw [if_neg hne]
          simp [listsAt, g]
        refine fin (hE24.trans (hE5.trans hE6)) ?_
        rw [hpr]
        refine (hO6.rep fun x hx => ?_).weak (fun b hb _ => by have := (hE24.trans hE5).size_le; omega) RepP.pos
        obtain ⟨y, hy, rfl⟩ := List.mem_map.1 hx
        obtain ⟨m, rfl, hm2, hm3⟩ := hab y hy
        show I64 ((labsOf (Int.toNat (m : Nat))).headD 0)
        rw [Int.toNat_natCast]
        cases hh : labsOf m with
        | nil => exact absurd hh (labs_ne_nil hm2 hm3)
        | cons y ys => exact labsOf_I64 m y (by rw [hh]; simp)
    refine cond_ne (fun hne => hgo (Ext.refl _) hne) (fun heq => ?_)
    have heq' : (L[i].length : Int) = p.degree := heq
    have hsome := hri.some heq'
    have hP : (fun c => decide (sortI c ∈ p.nodes)) = nodeB p := rfl
    rw [hP] at hm
    cases hG : firstC (nodeB p) (listsAt S L[i]) [] with
    | none => rw [hG] at hsome; cases hsome
    | some c =>
      rw [hG] at hm
      obtain ⟨rfl, hR4⟩ := hm
      unfold V_s_elPullEdge_k5
      refine cond_f rfl (fin hE24 ?_)
      unfold pullRow
      rw [if_pos heq', hG]
      have hz3 := hE3.size_le
      exact hR4.weak (fun b hb _ => by rcases hb with h1 | h1; exact h1.elim; omega) RepP.pos
  · have : i = L.length := by omega
    subst this
    rw [List.take_length] at hA2
    exact ⟨hE1.trans hE2, hO2.rows hA2.1 (fun i h1 h2 => (hA2.2 i h1 h2).any) fun _ _ => trivial⟩

/-! ### What is asked -/

structure PeAsked (p : Prob) (n : Net) (L : List (List Int)) : Prop where
  good : edGood p
  net : Good n
  lab : LabOk (edgeP p) n.ends L
  clean : Clean (edgeP p) n.ends L

theorem edge_sets {p : Prob} (hg : PGood p) : SetsOk (edgeSets p) := ⟨fun x hx => by
  obtain ⟨l, hl, hxl⟩ := (mem_setsOf (edge_byte hg)).1 hx
  rw [edgeFull_eq] at hl
  obtain ⟨m, hm, rfl⟩ := List.mem_map.1 hl
  have h1 := List.mem_filter.1 hm
  have h2 := List.mem_range.1 h1.1
  have h3 := two_lab hg
  have h4 := near_lt hg m
  have h5 := h1.2
  simp only [edF, Bool.and_eq_true, decide_eq_true_eq] at h5
  unfold edG at hxl
  rcases List.mem_cons.1 hxl with rfl | hxl
  · exact ⟨m, rfl, h5.1.1, by omega⟩
  · rw [List.mem_singleton.1 hxl]
    exact ⟨_, rfl, by have := h5.1.2; omega, h4⟩⟩

theorem edge_made {p : Prob} (h : edGood p) : PGood (edgeP p) := (EdAsked.mk h.1 h.2).made

theorem edge_small {p : Prob} (h : edGood p) : SmallP (edgeP p) := by
  have hd := h.1.deg
  have h1 := h.2.2
  exact ⟨small_filter (k := p.degree.toNat) h1 (by omega) _, small_filter (k := 2) h1 (by omega) _⟩

/-- A choice for labels in order is one for the labels as they are. -/
theorem choice_perm {S r : List Int} {good : List Int → Bool} (hgood : ∀ {c d : List Int}, c.Perm d → good c = good d) (h : (prodL (listsAt S (sortI r))).any good = true) : (firstC good (listsAt S r) []).isSome = true := by
  rw [firstC_some]
  rw [List.any_eq_true] at h ⊢
  obtain ⟨c, hc, hgc⟩ := h
  have hp : (listsAt S (sortI r)).Perm (listsAt S r) := (sortI_perm r).map _
  obtain ⟨d, hd, hcd⟩ := forall₂_perm hp (mem_prodL.1 hc)
  exact ⟨d, mem_prodL.2 hd, by rw [← hgood hcd]; exact hgc⟩

theorem row_len {p : Prob} {n : Net} {L : List (List Int)} (hg : Good n) (h : LabOk p n.ends L) : ∀ r ∈ L, r.length ≤ 1000 := fun r hr => by
  obtain ⟨v, hv, rfl⟩ := List.mem_iff_getElem.1 hr
  have hve : v < n.ends.length := by have := h.rows.1; omega
  have h1 := h.rows.2 v hv
  rw [rowD hv, rowD hve] at h1
  have := hg.deg hve
  omega

theorem nodes_of {p : Prob} {n : Net} {L : List (List Int)} (h4 : LabOk p n.ends L) (h5 : Clean p n.ends L) : ∀ r ∈ L, (r.length : Int) = p.degree → NodeOk p r := fun r hr hd => by
  obtain ⟨v, hv, rfl⟩ := List.mem_iff_getElem.1 hr
  have hve : v < n.ends.length := by have := h4.rows.1; omega
  have hB := (h5 v hve).1
  unfold NodeBad at hB
  rw [rowD hv] at hB
  exact Classical.byContradiction fun hn => hB ⟨hd, hn⟩

theorem pull_rows {p : Prob} {n : Net} {L : List (List Int)} (hn : Good n) (hlab : LabOk (edgeP p) n.ends L) (hcl : Clean (edgeP p) n.ends L) : ∀ r ∈ L, PullOk p (edgeSets p) r := fun r hr => by
  refine ⟨fun x hx => ?_, row_len hn hlab r hr, fun hd => ?_⟩
  · have h1 := hlab.labs r hr x hx
    have : (edgeP p).labels = ((edgeSets p).length : Nat) := rfl
    omega
  · have hN := nodes_of hlab hcl r hr hd
    have h1 : sortI r ∈ (msets (edgeSets p).length p.degree.toNat).filter fun c => (prodL (listsAt (edgeSets p) c)).any (nodeB p) := hN
    exact choice_perm nodeB_perm (List.mem_filter.1 h1).2

theorem PullEdgeStep_ok {w : World} {c d a b e s : Sl} {p : Prob} {n : Net} {L : List (List Int)} (h : RProb w c d p) (hN : RNet w a b e n) (hl : R w s L) (hsp : SmallP p) (hn : Small n) (hsl : SmallM L) :
    Calls Tryz.prog F.i_PullEdgeStep #[.agg #[.int .i64 p.labels, .int .i64 p.degree, c.v, d.v], .agg #[a.v, b.v, e.v], s.v] w (Ret [.at .sl, .at .bool] fun (r : Sl) (y : Bool) w' => Ext w w' ∧ ∃ m, OutM w.heap.size w' r m ∧ AnsG (PeAsked p n L) (L.map (pullRow p (edgeSets p))) [] m y) := by
  refine C_i_PullEdgeStep ?_
  unfold V_i_PullEdgeStep
  refine NEW_intro fun pp w1 hp1 hs1 hE1 hb1 => NEW_intro fun pn w2 hp2 hs2 hE2 hb2 => ?_
  have hE := hE1.trans hE2
  replace h := h.ext hE
  replace hN := hN.ext hE
  replace hl := hl.ext hE
  replace hb1 := hb1.ext hE2
  refine LD_iiss hb1 ?_
  refine call (EdgeStep_ok h hsp) ?_
  rintro x y z u S r w3 ⟨hE3, hr⟩
  replace hE := hE.ext hE3
  replace h := h.ext hE3
  replace hN := hN.ext hE3
  replace hl := hl.ext hE3
  replace hb1 := hb1.ext hE3
  replace hb2 := hb2.ext hE3
  refine NEW_ST (one4p _ _ _ _) rfl fun pq w4 hp4 hE4 hb4 => ?_
  replace hE := hE.ext hE4
  replace h := h.ext hE4
  replace hN := hN.ext hE4
  replace hl := hl.ext hE4
  replace hb1 := hb1.ext hE4
  replace hb2 := hb2.ext hE4
  rcases hr with ⟨rfl, hgd, rfl, rfl, hP⟩ | ⟨rfl, hn'⟩
  · replace hP := hP.ext hE4
    refine cond_not (fun hf => by cases hf) (fun _ => LD_box3 hb2 ?_)
    refine call (isNetwork_ok hN hn.2.2.1) ?_
    rintro t w6 ⟨ht, hE6⟩
    replace hE := hE.ext hE6
    replace h := h.ext hE6
    replace hN := hN.ext hE6
    replace hl := hl.ext hE6
    replace hb1 := hb1.ext hE6
    replace hb2 := hb2.ext hE6
    replace hb4 := hb4.ext hE6
    replace hP := hP.ext hE6
    refine cond_not (fun hfa => ⟨hE, [], OutM.nil _ _, .no fun hA => (by rw [ht.2 hA.net] at hfa; cases hfa)⟩) (fun ht2 => LD_iiss hb4 (LD_box3 hb2 ?_))
    have hg := ht.1 ht2
    refine call (isSolution_ok (p := edgeP p) hP.prob (edge_small hgd) (edge_made hgd) hg hN hl) ?_
    rintro v w7 ⟨hv, hE7⟩
    replace hE := hE.ext hE7
    replace h := h.ext hE7
    replace hN := hN.ext hE7
    replace hl := hl.ext hE7
    replace hb1 := hb1.ext hE7
    replace hb2 := hb2.ext hE7
    replace hP := hP.ext hE7
    refine cond_not (fun hfa => ⟨hE, [], OutM.nil _ _, .no fun hA => (by rw [hv.2 ⟨hA.lab, hA.clean⟩] at hfa; cases hfa)⟩) (fun ht3 => LD_iiss hb1 ?_)
    obtain ⟨hLb, hCl⟩ := hv.1 ht3
    refine call (pullEdgeStep_ok h hsp hgd.1 hP.sets.any (edge_sets hgd.1) hl (pull_rows hg hLb hCl) hsl.1) ?_
    rintro r y w8 ⟨hE8, rfl, hO⟩
    exact ⟨hE.trans hE8, _, hO.low hE.size_le, .yes ⟨hgd, hg, hLb, hCl⟩⟩
  · refine cond_not (fun _ => ⟨hE, [], OutM.nil _ _, .no fun hA => hn' hA.good⟩) (fun ht => by cases ht)

end Go.Proofs.YtndebacmnpghkaaGreat
end
