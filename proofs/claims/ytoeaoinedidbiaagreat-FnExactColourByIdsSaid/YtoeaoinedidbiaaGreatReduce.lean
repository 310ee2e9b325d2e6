/- Degrees, greatest numbers, palettes; GreedyReduce, both sides. -/
import Derived.Test.YtoeaoinedidbiaaGreatDrop
namespace Go.Proofs.YtoeaoinedidbiaaGreat
open Go.GX Go.RowKit
set_option maxRecDepth 100000

/-! ### The greatest number -/

def most2 (a b : Int) : Int := if a > b then a else b
def mostOf (l : List Int) : Int := l.foldl most2 0

theorem mostOf_snoc (l : List Int) (x : Int) : mostOf (l ++ [x]) = most2 (mostOf l) x := by simp [mostOf]

theorem mostOf_spec (l : List Int) : 0 ≤ mostOf l ∧ (∀ x ∈ l, x ≤ mostOf l) ∧ (mostOf l = 0 ∨ mostOf l ∈ l) := by
  unfold mostOf
  have : ∀ (l : List Int) (m : Int), 0 ≤ m → 0 ≤ l.foldl most2 m ∧ m ≤ l.foldl most2 m ∧ (∀ x ∈ l, x ≤ l.foldl most2 m) ∧ (l.foldl most2 m = m ∨ l.foldl most2 m ∈ l) := by
    intro l
    induction l with
    | nil => intro m hm; simp; exact hm
    | cons y r ih =>
      intro m hm
      have hy : m ≤ most2 m y ∧ y ≤ most2 m y ∧ (most2 m y = m ∨ most2 m y = y) := by
        unfold most2; split <;> omega
      obtain ⟨h1, h2, h3, h4⟩ := ih (most2 m y) (by omega)
      rw [List.foldl_cons]
      refine ⟨h1, by omega, fun x hx => ?_, ?_⟩
      · rcases List.mem_cons.1 hx with rfl | hx
        · omega
        · exact h3 x hx
      · rcases h4 with h4 | h4
        · rcases hy.2.2 with h5 | h5
          · left; rw [h4, h5]
          · right; rw [h4, h5]; simp
        · right; exact List.mem_cons_of_mem _ h4
  obtain ⟨h1, _, h3, h4⟩ := this l 0 (by omega)
  exact ⟨h1, h3, h4⟩

theorem mostOf_le {l : List Int} {c : Int} (hc : 0 ≤ c) (h : ∀ x ∈ l, x ≤ c) : mostOf l ≤ c := by
  rcases (mostOf_spec l).2.2 with h1 | h1
  · omega
  · exact h _ h1

theorem mostOf_I64 {l : List Int} (h : ∀ x ∈ l, I64 x) : I64 (mostOf l) := by
  rcases (mostOf_spec l).2.2 with h1 | h1
  · rw [h1]; exact ⟨by decide, by decide⟩
  · exact h _ h1

theorem l1Most_ok (a b : Int) (w : World) : Calls Tryz.prog F.s_l1Most #[.int .i64 a, .int .i64 b] w (Ret [.at (.int .i64)] fun (r : Int) w' => r = most2 a b ∧ w = w') := by
  refine C_s_l1Most ?_
  unfold V_s_l1Most most2
  exact cond_dec (fun h => ⟨by rw [if_pos h], rfl⟩) (fun h => ⟨by rw [if_neg h], rfl⟩)

theorem meMost_ok {w : World} {s : Sl} {l : List Int} (h : R w s l) :
    Calls Tryz.prog F.s_meMost #[s.v] w (Ret [.at (.int .i64)] fun (r : Int) w' => r = mostOf l ∧ w = w') := by
  refine C_s_meMost ?_
  unfold V_s_meMost
  rw [h.len]
  refine ⟨IN2 l.length fun i m w' => w = w' ∧ m = mostOf (l.take i), MN2 l.length, IN2_zero ⟨rfl, by simp [mostOf]⟩, ?_⟩
  rintro _ _ w1 ⟨i, rfl, hi, rfl, rfl⟩
  intros
  refine cond_dec (fun hlt => ?_) (fun hge => ⟨?_, rfl⟩)
  · have hi' : i < l.length := by omega
    refine h.ixI hi' fun q _ hc => LD_int hc ?_
    refine call (l1Most_ok _ _ _) ?_
    rintro r _ ⟨rfl, rfl⟩
    exact IN2_next h.le hi' ⟨rfl, by rw [List.take_succ_eq_append_getElem hi', mostOf_snoc]⟩
  · have : i = l.length := by omega
    subst this
    rw [List.take_length]

theorem max_ok {w : World} {s : Sl} {l : List Int} (h : R w s l) (h0 : 0 < l.length) (hnn : ∀ x ∈ l, 0 ≤ x) :
    Calls Tryz.prog F.slices_Max_sl_int_int #[s.v] w (Ret [.at (.int .i64)] fun (r : Int) w' => r = mostOf l ∧ w = w') := by
  refine C_slices_Max_sl_int_int ?_
  unfold V_slices_Max_sl_int_int
  rw [h.len]
  have hle := h.le
  refine cond_df (by omega) ?_
  refine h.ixI (i := 0) h0 fun q _ hc => LD_int hc ?_
  refine ⟨fun m x w' => w = w' ∧ ∃ i : Nat, x = i ∧ 1 ≤ i ∧ i ≤ l.length ∧ m = mostOf (l.take i), fun _ x _ => l.length - x.toNat, ⟨rfl, 1, rfl, by omega, by omega, ?_⟩, ?_⟩
  · have e1 : l.take 1 = [l[0]] := by
      have := List.take_succ_eq_append_getElem (l := l) (i := 0) h0
      simpa using this
    have := hnn l[0] (List.getElem_mem h0)
    rw [e1]
    simp only [mostOf, List.foldl_cons, List.foldl_nil, most2]
    split <;> omega
  rintro _ _ _ ⟨rfl, i, rfl, h1, hi, rfl⟩
  intros
  refine cond_dec (fun hlt => ?_) (fun hge => ⟨?_, rfl⟩)
  · have hi' : i < l.length := by omega
    refine h.ixI hi' fun q _ hc => LD_int hc (RUN_max ?_)
    rw [wrap_of (by omega) (by omega)]
    refine ⟨⟨rfl, i + 1, by omega, by omega, by omega, ?_⟩, by show l.length - (_ : Int).toNat < l.length - (_ : Int).toNat; omega⟩
    rw [List.take_succ_eq_append_getElem hi', mostOf_snoc]
    unfold most2
    split <;> split <;> omega
  · have : i = l.length := by omega
    subst this
    rw [List.take_length]

/-! ### Degrees -/

def degsOf (E : Ends) : List Int := E.map fun r => (r.length : Int)

theorem degrees_ok {w : World} {a b c : Sl} {n : Net} (h : RNet w a b c n) (hg : Good n) :
    Calls Tryz.prog F.i_Network_degrees #[.agg #[a.v, b.v, c.v]] w (Ret [.at .sl] fun (r : Sl) w' => Ext w w' ∧ OwnL w' w.heap.size T.t_int r (degsOf n.ends)) := by
  refine C_i_Network_degrees ?_
  unfold V_i_Network_degrees degsOf
  have h40 := hg.size.2
  refine NEW_intro fun p w1 hp hs hE hb1 => LD_bs0 hb1 ?_
  replace h := h.ext hE
  rw [h.1.len]
  refine ⟨IN2 n.ends.length fun i out w' => Ext w1 w' ∧ OwnL w' w1.heap.size T.t_int out ((n.ends.take i).map fun r => (r.length : Int)), MN2 n.ends.length, IN2_zero ⟨Ext.refl _, by simpa using OwnL.nil _ _ _⟩, ?_⟩
  rintro out _ w2 ⟨i, rfl, hi, hE2, hO⟩
  intros
  refine cond_dec (fun hlt => ?_) (fun hge => ?_)
  · have hi' : i < n.ends.length := by omega
    refine (h.ext hE2).1.ixL hi' fun q s1 hR hc => LD_sl hc ?_
    rw [hR.len]
    have := hg.deg hi'
    refine RUN_lit1 (α := Int) slt_int (n.ends[i].length : Int) rfl (by decide) fun r w3 hE3 hO3 => ?_
    replace hE2 := hE2.ext hE3
    replace hO := hO.ext hE3
    refine RUN_append (α := Int) slt_int hO hE2.size_le (hO3.rep (by intro z hz; simp at hz; subst hz; show I64 _; unfold I64; omega)).any (by simp; omega) (by simp [maxLen]; omega) fun r' w4 hO4 hs4 => ?_
    refine IN2_next (by omega) hi' ⟨hs4.ext0 hE2 (fun k hk => (hO.blk k hk).1), ?_⟩
    rw [map_take_succ hi']
    exact hO4
  · have : i = n.ends.length := by omega
    subst this
    exact ⟨hE.trans hE2, (by simpa using hO : OwnL w2 w1.heap.size T.t_int out (n.ends.map fun r => (r.length : Int))).low hE.size_le⟩


theorem neDegrees_ok {w : World} {a b c : Sl} {n : Net} (h : RNet w a b c n) (hg : Good n) :
    Calls Tryz.prog F.s_neDegrees #[.agg #[a.v, b.v, c.v]] w (Ret [.at .sl] fun (r : Sl) w' => Ext w w' ∧ OwnL w' w.heap.size T.t_int r (degsOf n.ends)) := by
  refine C_s_neDegrees ?_
  unfold V_s_neDegrees degsOf
  have h40 := hg.size.2
  refine NEW_intro fun p w1 hp hs hE hb1 => LD_bs0 hb1 ?_
  replace h := h.ext hE
  rw [h.1.len]
  refine ⟨IN2 n.ends.length fun i out w' => Ext w1 w' ∧ OwnL w' w1.heap.size T.t_int out ((n.ends.take i).map fun r => (r.length : Int)), MN2 n.ends.length, IN2_zero ⟨Ext.refl _, by simpa using OwnL.nil _ _ _⟩, ?_⟩
  rintro out _ w2 ⟨i, rfl, hi, hE2, hO⟩
  intros
  refine cond_dec (fun hlt => ?_) (fun hge => ?_)
  · have hi' : i < n.ends.length := by omega
    refine (h.ext hE2).1.ixL hi' fun q s1 hR hc => LD_sl hc ?_
    rw [hR.len]
    have := hg.deg hi'
    refine RUN_lit1 (α := Int) slt_int (n.ends[i].length : Int) rfl (by decide) fun r w3 hE3 hO3 => ?_
    replace hE2 := hE2.ext hE3
    replace hO := hO.ext hE3
    refine RUN_append (α := Int) slt_int hO hE2.size_le (hO3.rep (by intro z hz; simp at hz; subst hz; show I64 _; unfold I64; omega)).any (by simp; omega) (by simp [maxLen]; omega) fun r' w4 hO4 hs4 => ?_
    refine IN2_next (by omega) hi' ⟨hs4.ext0 hE2 (fun k hk => (hO.blk k hk).1), ?_⟩
    rw [map_take_succ hi']
    exact hO4
  · have : i = n.ends.length := by omega
    subst this
    exact ⟨hE.trans hE2, (by simpa using hO : OwnL w2 w1.heap.size T.t_int out (n.ends.map fun r => (r.length : Int))).low hE.size_le⟩

theorem degs_mem {E : Ends} {x : Int} (h : x ∈ degsOf E) : ∃ v, ∃ hv : v < E.length, x = E[v].length := by
  obtain ⟨r, hr, rfl⟩ := List.mem_map.1 h
  obtain ⟨v, hv, rfl⟩ := List.mem_iff_getElem.1 hr
  exact ⟨v, hv, rfl⟩

theorem degs_I64 {n : Net} (hg : Good n) : ∀ x ∈ degsOf n.ends, I64 x := fun x hx => by
  obtain ⟨v, hv, rfl⟩ := degs_mem hx
  have := hg.deg hv
  unfold I64; omega

/-! ### What is asked -/

structure PalAsked (n : Net) (l : List Int) (k a : Int) : Prop where
  good : Good n
  pal : 1 ≤ k ∧ k ≤ 1000000000000
  bound : 0 ≤ a ∧ a ≤ 6
  proper : Proper n l
  all : AllIn l 0 (k - 1)
  degs : mostOf (degsOf n.ends) ≤ a

theorem PalAsked.deg {n : Net} {l : List Int} {k a : Int} (h : PalAsked n l k a) {v : Nat} (hv : v < n.ends.length) : (n.ends[v].length : Int) ≤ a := by
  have := (mostOf_spec (degsOf n.ends)).2.1 (n.ends[v].length : Int) (List.mem_map.2 ⟨_, List.getElem_mem hv, rfl⟩)
  have := h.degs
  omega

theorem isBound_ok {w : World} {a b c : Sl} {n : Net} (h : RNet w a b c n) (hg : Good n) (k : Int) :
    Calls Tryz.prog F.i_isBound #[.agg #[a.v, b.v, c.v], .int .i64 k] w (Ret [.at .bool] fun (x : Bool) w' => (x = true ↔ (0 ≤ k ∧ k ≤ 6) ∧ mostOf (degsOf n.ends) ≤ k) ∧ Ext w w') := by
  refine C_i_isBound ?_
  unfold V_i_isBound
  refine NEW_intro fun p w1 hp hs hE hb1 => ?_
  replace h := h.ext hE
  refine call (within_ok _ _ _ _) ?_
  rintro x _ ⟨rfl, rfl⟩
  refine cond_b (fun ht => LD_box3 hb1 ?_) (fun hf => ⟨?_, hE⟩)
  · refine call (degrees_ok h hg) ?_
    rintro r w3 ⟨hE3, hO⟩
    have hsz := hg.size.1
    refine call (max_ok (hO.rep (degs_I64 hg)).any (by simp [degsOf]; omega) (fun x hx => by obtain ⟨v, hv, rfl⟩ := degs_mem hx; omega)) ?_
    rintro m _ ⟨rfl, rfl⟩
    refine ⟨?_, hE.trans hE3⟩
    rw [decide_eq_true_eq]
    exact ⟨fun h1 => ⟨inR_true ht, h1⟩, fun h1 => h1.2⟩
  · simp only [Bool.false_eq_true, false_iff]
    exact fun h1 => inR_false hf h1.1

theorem paletteOk_ok {w : World} {a b c s : Sl} {n : Net} {l : List Int} (h : RNet w a b c n) (hl : R w s l) (hn : Small n) {k d : Int} :
    Calls Tryz.prog F.i_paletteOk #[.agg #[a.v, b.v, c.v], s.v, .int .i64 k, .int .i64 d] w (Ret [.at .bool] fun (x : Bool) w' => (x = true ↔ PalAsked n l k d) ∧ Ext w w') := by
  refine C_i_paletteOk ?_
  unfold V_i_paletteOk
  refine NEW_intro fun p w1 hp hs hE hb1 => LD_box3 hb1 ?_
  replace h := h.ext hE
  replace hl := hl.ext hE
  have hno : ∀ {w' : World}, Ext w w' → ¬ PalAsked n l k d → (false = true ↔ PalAsked n l k d) ∧ Ext w w' := fun h1 h2 => ⟨by simp [h2], h1⟩
  refine call (isNetwork_ok h hn.2.2.1) ?_
  rintro x w2 ⟨hx, hE2⟩
  replace h := h.ext hE2
  replace hl := hl.ext hE2
  replace hb1 := hb1.ext hE2
  replace hE := hE.ext hE2
  refine cond_b (fun ht => ?_) (fun hf => hno hE fun hA => by rw [hx.2 hA.good] at hf; cases hf)
  have hg := hx.1 ht
  refine call (within_ok _ _ _ _) ?_
  rintro x _ ⟨rfl, rfl⟩
  refine cond_b (fun ht2 => LD_box3 hb1 ?_) (fun hf => hno hE fun hA => inR_false hf hA.pal)
  have hk := inR_true ht2
  refine call (isColouring_ok h hl hg) ?_
  rintro y w4 ⟨hy, hE4⟩
  replace h := h.ext hE4
  replace hl := hl.ext hE4
  replace hb1 := hb1.ext hE4
  replace hE := hE.ext hE4
  refine cond_b (fun ht3 => ?_) (fun hf => hno hE fun hA => by rw [hy.2 hA.proper] at hf; cases hf)
  rw [wrap_of (by omega) (by omega)]
  refine call (allWithin_ok hl _ _) ?_
  rintro z w5 ⟨hz, hE5⟩
  replace h := h.ext hE5
  replace hl := hl.ext hE5
  replace hb1 := hb1.ext hE5
  replace hE := hE.ext hE5
  refine cond_b (fun ht4 => LD_box3 hb1 ?_) (fun hf => hno hE fun hA => by rw [hz.2 hA.all] at hf; cases hf)
  refine call (isBound_ok h hg d) ?_
  rintro u w6 ⟨hu, hE6⟩
  refine ⟨?_, hE.trans hE6⟩
  rw [hu]
  exact ⟨fun h1 => ⟨hg, hk, h1.1, hy.1 ht3, hz.1 ht4, h1.2⟩, fun h1 => ⟨h1.bound, h1.degs⟩⟩

theorem clAsked_ok {w : World} {a b c s : Sl} {n : Net} {l : List Int} (h : RNet w a b c n) (hl : R w s l) {k d : Int} :
    Calls Tryz.prog F.s_clAsked #[.agg #[a.v, b.v, c.v], s.v, .int .i64 k, .int .i64 d] w (Ret [.at .bool] fun (x : Bool) w' => (x = true ↔ PalAsked n l k d) ∧ Ext w w') := by
  refine C_s_clAsked ?_
  unfold V_s_clAsked
  refine NEW_intro fun p w1 hp hs hE hb1 => LD_box3 hb1 ?_
  replace h := h.ext hE
  replace hl := hl.ext hE
  have hno : ∀ {w' : World}, Ext w w' → ¬ PalAsked n l k d → (false = true ↔ PalAsked n l k d) ∧ Ext w w' := fun h1 h2 => ⟨by simp [h2], h1⟩
  refine call (neGood_ok h) ?_
  rintro x w2 ⟨hx, hE2⟩
  replace h := h.ext hE2
  replace hl := hl.ext hE2
  replace hb1 := hb1.ext hE2
  replace hE := hE.ext hE2
  refine cond_b (fun ht => ?_) (fun hf => hno hE fun hA => by rw [hx.2 hA.good] at hf; cases hf)
  have hg := hx.1 ht
  refine call (Q := fun (z : Bool) w' => (z = true ↔ (1 ≤ k ∧ k ≤ 1000000000000) ∧ (0 ≤ d ∧ d ≤ 6)) ∧ w2 = w') (C_s_clPalette ?_) ?_
  · unfold V_s_clPalette
    refine call (l1In_ok _ _ _ _) ?_
    rintro x _ ⟨rfl, rfl⟩
    refine cond_b (fun h1 => ?_) (fun h1 => ⟨?_, rfl⟩)
    · refine call (l1In_ok _ _ _ _) ?_
      rintro x _ ⟨rfl, rfl⟩
      refine ⟨⟨fun h2 => ⟨inR_true h1, inR_true h2⟩, fun h2 => ?_⟩, rfl⟩
      simp [inR, h2.2.1, h2.2.2]
    · simp only [Bool.false_eq_true, false_iff]
      exact fun h2 => inR_false h1 h2.1
  rintro z _ ⟨hz0, rfl⟩
  refine cond_b (fun ht2 => LD_box3 hb1 ?_) (fun hf => hno hE fun hA => by rw [hz0.2 ⟨hA.pal, hA.bound⟩] at hf; cases hf)
  have hk := hz0.1 ht2
  refine call (clProper_ok h hl hg) ?_
  rintro y w4 ⟨hy, hE4⟩
  replace h := h.ext hE4
  replace hl := hl.ext hE4
  replace hb1 := hb1.ext hE4
  replace hE := hE.ext hE4
  refine cond_b (fun ht3 => ?_) (fun hf => hno hE fun hA => by rw [hy.2 hA.proper] at hf; cases hf)
  rw [wrap_of (by omega) (by omega)]
  refine call (l1All_ok hl _ _) ?_
  rintro z _ ⟨hz, rfl⟩
  refine cond_b (fun ht4 => LD_box3 hb1 ?_) (fun hf => hno hE fun hA => by rw [hz.2 hA.all] at hf; cases hf)
  refine call (neDegrees_ok h hg) ?_
  rintro r w6 ⟨hE6, hO⟩
  refine call (meMost_ok (hO.rep (degs_I64 hg)).any) ?_
  rintro m _ ⟨rfl, rfl⟩
  refine ⟨?_, hE.trans hE6⟩
  rw [decide_eq_true_eq]
  exact ⟨fun h1 => ⟨hg, hk.1, hk.2, hy.1 ht3, hz.1 ht4, h1⟩, fun h1 => h1.degs⟩

/-! ### Dropping the greatest colours -/

/-- What a list of colours must be for the rounds. -/
structure ColsOk (n : Net) (a : Int) (l : List Int) : Prop where
  good : Good n
  len : l.length = n.ends.length
  nn : ∀ x ∈ l, 0 ≤ x
  i64 : ∀ x ∈ l, I64 x
  deg : ∀ v, (hv : v < n.ends.length) → (n.ends[v].length : Int) ≤ a

theorem dropOf_mem {n : Net} {a : Int} {l : List Int} (h : ColsOk n a l) {c : Int} : ∀ x ∈ dropOf n.ends l c, (0 ≤ x ∧ x ≤ a) ∨ (x ∈ l ∧ x ≠ c) := fun x hx => by
  obtain ⟨v, hv, rfl⟩ := List.mem_map.1 hx
  have hv' : v < l.length := by simpa using hv
  have hve : v < n.ends.length := by rw [← h.len]; exact hv'
  unfold dropAt
  split
  · left
    have h1 := mex_le (nearOf n.ends l v)
    have h2 : (nearOf n.ends l v).length = n.ends[v].length := by rw [near_adj, List.length_map, adj_len h.good hve]
    have := h.deg v hve
    omega
  · rename_i hne
    right
    simp [hv'] at hne ⊢
    exact hne

theorem ColsOk.drop {n : Net} {a : Int} {l : List Int} (h : ColsOk n a l) (c : Int) : ColsOk n a (dropOf n.ends l c) :=
  ⟨h.good, by rw [dropOf_len]; exact h.len, fun x hx => by
    rcases dropOf_mem h x hx with h1 | h1
    · exact h1.1
    · exact h.nn x h1.1, dropOf_I64 h.good h.i64 h.len c, h.deg⟩

theorem drop_lt {n : Net} {a : Int} {l : List Int} (h : ColsOk n a l) (ha : 0 ≤ a) (hm : mostOf l > a) : mostOf (dropOf n.ends l (mostOf l)) < mostOf l := by
  have : mostOf (dropOf n.ends l (mostOf l)) ≤ mostOf l - 1 := by
    refine mostOf_le (by omega) fun x hx => ?_
    rcases dropOf_mem h x hx with h1 | h1
    · omega
    · have := (mostOf_spec l).2.1 x h1.1
      have := h1.2
      omega
  omega

def redRun (E : Ends) (a : Int) : Nat → List Int → List Int
  | 0, l => l
  | f + 1, l => if mostOf l > a then redRun E a f (dropOf E l (mostOf l)) else l

def redOf (E : Ends) (a : Int) (l : List Int) : List Int := redRun E a ((mostOf l).toNat + 1) l

theorem redRun_done {E : Ends} {a : Int} {f : Nat} {l : List Int} (h : ¬ mostOf l > a) : redRun E a f l = l := by
  cases f with
  | zero => rfl
  | succ f => unfold redRun; rw [if_neg h]

theorem greedyReduce_ok {w : World} {a b c s : Sl} {n : Net} {l : List Int} {d : Int} (h : RNet w a b c n) (hl : R w s l) (hC : ColsOk n d l) (hd : 0 ≤ d ∧ d ≤ 6) {k : Int} (hk : 0 ≤ k ∧ k ≤ 1000000000000) :
    Calls Tryz.prog F.i_greedyReduce #[.agg #[a.v, b.v, c.v], s.v, .int .i64 k, .int .i64 d] w (Ret [.at .sl, .at (.int .i64)] fun (r : Sl) (x : Int) w' => Ext w w' ∧ OwnL w' w.heap.size T.t_int r (redOf n.ends d l) ∧ x = most2 (k - d - 1) 0 ∧ ColsOk n d (redOf n.ends d l)) := by
  refine C_i_greedyReduce ?_
  unfold V_i_greedyReduce
  have h40 := hC.good.size
  refine NEW_intro fun p w1 hp hs hE hb1 => ?_
  replace h := h.ext hE
  replace hl := hl.ext hE
  have hlen := hC.len
  refine call (max_ok hl (by omega) hC.nn) ?_
  rintro m _ ⟨rfl, rfl⟩
  refine ⟨fun t m w' => ∃ (q : List Int) (f : Nat), m = mostOf q ∧ Ext w1 w' ∧ R w' t q ∧ ColsOk n d q ∧ mostOf q < (f : Int) ∧ redRun n.ends d f q = redOf n.ends d l, fun _ m _ => m.toNat, ⟨l, (mostOf l).toNat + 1, rfl, Ext.refl _, hl, hC, by omega, rfl⟩, ?_⟩
  rintro t _ w3 ⟨q, f, rfl, hE3, hq, hCq, hf, hrun⟩
  intros
  have hnn := (mostOf_spec q).1
  have hlq := hCq.len
  refine cond_dec (fun hgt => LD_box3 (hb1.ext hE3) ?_) (fun hle => ?_)
  · refine call (dropColour_ok (h.ext hE3) hq hCq.good hCq.len _) ?_
    rintro r w4 ⟨hE4, hO4⟩
    have hC' := hCq.drop (mostOf q)
    have hR4 := (hO4.rep hC'.i64).any
    refine call (max_ok hR4 (by rw [dropOf_len]; omega) hC'.nn) ?_
    rintro m _ ⟨rfl, rfl⟩
    have hlt := drop_lt hCq hd.1 hgt
    obtain ⟨f', rfl⟩ : ∃ f', f = f' + 1 := ⟨f - 1, by omega⟩
    refine ⟨⟨_, f', rfl, hE3.trans hE4, hR4, hC', by omega, ?_⟩, by show (_ : Int).toNat < (_ : Int).toNat; omega⟩
    rw [← hrun]
    conv => rhs; unfold redRun
    rw [if_pos hgt]
  · rw [redRun_done hle] at hrun
    subst hrun
    refine call (clone_ok hq (by omega)) ?_
    rintro r w6 ⟨hE6, hO6⟩
    refine RUN_max ⟨hE.trans (hE3.trans hE6), hO6.low (hE.trans hE3).size_le, ?_, hCq⟩
    rw [wrap_of (n := k - 1) (by omega) (by omega), wrap_of (by omega) (by omega)]
    unfold most2
    split <;> split <;> omega

theorem clGreedy_ok {w : World} {a b c s : Sl} {n : Net} {l : List Int} {d : Int} (h : RNet w a b c n) (hl : R w s l) (hC : ColsOk n d l) (hd : 0 ≤ d ∧ d ≤ 6) {k : Int} (hk : 0 ≤ k ∧ k ≤ 1000000000000) :
    Calls Tryz.prog F.s_clGreedy #[.agg #[a.v, b.v, c.v], s.v, .int .i64 k, .int .i64 d] w (Ret [.at .sl, .at (.int .i64)] fun (r : Sl) (x : Int) w' => Ext w w' ∧ R w' r (redOf n.ends d l) ∧ x = most2 (k - d - 1) 0 ∧ ColsOk n d (redOf n.ends d l)) := by
  refine C_s_clGreedy ?_
  unfold V_s_clGreedy
  have h40 := hC.good.size
  refine NEW_intro fun p w1 hp hs hE hb1 => ?_
  replace h := h.ext hE
  replace hl := hl.ext hE
  have hlen := hC.len
  refine call (l1Own_ok hl (by omega)) ?_
  rintro r0 w2 ⟨hE2, hO2⟩
  have hR2 := (hO2.rep hC.i64).any
  refine call (meMost_ok hR2) ?_
  rintro m _ ⟨rfl, rfl⟩
  refine ⟨fun t m w' => ∃ (q : List Int) (f : Nat), m = mostOf q ∧ Ext w1 w' ∧ R w' t q ∧ ColsOk n d q ∧ mostOf q < (f : Int) ∧ redRun n.ends d f q = redOf n.ends d l, fun _ m _ => m.toNat, ⟨l, (mostOf l).toNat + 1, rfl, hE2, hR2, hC, by omega, rfl⟩, ?_⟩
  rintro t _ w3 ⟨q, f, rfl, hE3, hq, hCq, hf, hrun⟩
  intros
  have hnn := (mostOf_spec q).1
  have hlq := hCq.len
  refine cond_dec (fun hgt => LD_box3 (hb1.ext hE3) ?_) (fun hle => ?_)
  · refine call (clDrop_ok (h.ext hE3) hq hCq.good hCq.len _) ?_
    rintro r w4 ⟨hE4, hO4⟩
    have hC' := hCq.drop (mostOf q)
    have hR4 := (hO4.rep hC'.i64).any
    refine call (meMost_ok hR4) ?_
    rintro m _ ⟨rfl, rfl⟩
    have hlt := drop_lt hCq hd.1 hgt
    obtain ⟨f', rfl⟩ : ∃ f', f = f' + 1 := ⟨f - 1, by omega⟩
    refine ⟨⟨_, f', rfl, hE3.trans hE4, hR4, hC', by omega, ?_⟩, by show (_ : Int).toNat < (_ : Int).toNat; omega⟩
    rw [← hrun]
    conv => rhs; unfold redRun
    rw [if_pos hgt]
  · rw [redRun_done hle] at hrun
    subst hrun
    refine call (l1Most_ok _ _ _) ?_
    rintro x _ ⟨rfl, rfl⟩
    refine ⟨hE.trans hE3, hq, ?_, hCq⟩
    rw [wrap_of (n := k - d) (by omega) (by omega), wrap_of (by omega) (by omega)]

theorem PalAsked.cols {n : Net} {l : List Int} {k a : Int} (h : PalAsked n l k a) (hi : ∀ x ∈ l, I64 x) : ColsOk n a l :=
  ⟨h.good, h.proper.1, fun x hx => (h.all x hx).1, hi, fun v hv => h.deg hv⟩

end Go.Proofs.YtoeaoinedidbiaaGreat
