/- What a node's neighbours bear: both sides' walks over ports; the tests IsDefective and IsWeak. -/
import Derived.Test.YtghibjghjjnchaaGood
namespace Go.Proofs.Ytghibjghjjnchaa
open Go.GX Go.RowKit
set_option maxRecDepth 100000

def rowOf (E : Ends) (v : Nat) : List (Int × Int) := E.getD v []
theorem rowOf_get {E : Ends} {v : Nat} (h : v < E.length) : rowOf E v = E[v] := by simp [rowOf, h]

/-- What lies at the far ends of a node's ports. -/
def nearOf (E : Ends) (l : List Int) (v : Nat) : List Int := (rowOf E v).map fun e => l.getD e.1.toNat 0
/-- The nodes at the far ends of a node's ports. -/
def adjOf (E : Ends) (v : Nat) : List Int := (rowOf E v).map (·.1)

theorem Good.far {n : Net} (hg : Good n) {v i : Nat} (hv : v < n.ends.length) (hi : i < n.ends[v].length) : ∃ x y : Nat, n.ends[v][i] = ((x : Int), (y : Int)) ∧ x < n.ends.length ∧ port n.ends x y = some ((v : Int), (i : Int)) := by
  obtain ⟨x, y, hxy, hb⟩ := hg.back hv hi
  obtain ⟨hx, _⟩ := port_some hb
  exact ⟨x, y, hxy, hx, hb⟩

theorem map_take_succ {α β : Type} {l : List α} {i : Nat} (hi : i < l.length) (f : α → β) : (l.take (i + 1)).map f = (l.take i).map f ++ [f l[i]] := by
  rw [List.take_succ_eq_append_getElem hi, List.map_append]; rfl

theorem near_ok {w : World} {a b c s : Sl} {n : Net} {l : List Int} (h : RNet w a b c n) (hl : R w s l) (hg : Good n) (hlen : l.length = n.ends.length) {v : Nat} (hv : v < n.ends.length) :
    Calls Try.prog F.i_near #[.agg #[a.v, b.v, c.v], .int .i64 v, s.v] w (Ret [.at .sl] fun (r : Sl) w' => Ext w w' ∧ OwnL w' w.heap.size T.t_int r (nearOf n.ends l v)) := by
  refine C_i_near ?_
  unfold V_i_near nearOf
  rw [rowOf_get hv]
  refine NEW_intro fun p w1 hp hs hE1 hb1 => LD_bs0 hb1 ?_
  replace h := h.ext hE1
  replace hl := hl.ext hE1
  refine h.1.ixL hv fun q s1 hR hc => LD_sl hc ?_
  rw [hR.len]
  have hle := hR.le
  refine ⟨IN2 n.ends[v].length fun i out w' => Ext w1 w' ∧ OwnL w' w1.heap.size T.t_int out ((n.ends[v].take i).map fun e => l.getD e.1.toNat 0), MN2 n.ends[v].length, IN2_zero ⟨Ext.refl _, by simpa using OwnL.nil _ _ _⟩, ?_⟩
  rintro out _ w2 ⟨i, rfl, hi, hE2, hO⟩
  intros
  refine cond_dec (fun hlt => ?_) (fun hge => ?_)
  · have hi' : i < n.ends[v].length := by omega
    replace hR := hR.ext hE2
    replace hl := hl.ext hE2
    refine hR.ixE hi' fun q _ _ hc0 hc1 => LD_int2 hc0 hc1 ?_
    refine NEW_ST (one2 _ _) rfl fun p6 w4 hp6 hE4 hb6 => ?_
    refine LD_bi0 hb6 ?_
    obtain ⟨x, y, hxy, hx, _⟩ := hg.far hv hi'
    have hx' : x < l.length := by omega
    rw [hxy]
    replace hE2 := hE2.ext hE4
    replace hO := hO.ext hE4
    replace hl := hl.ext hE4
    refine hl.ixI hx' fun q _ hc => LD_int hc ?_
    refine RUN_lit1 (α := Int) slt_int l[x] rfl (by decide) fun r w5 hE5 hO5 => ?_
    replace hE2 := hE2.ext hE5
    replace hO := hO.ext hE5
    have hd := hg.deg hv
    refine RUN_append (α := Int) slt_int hO hE2.size_le (hO5.rep (by intro z hz; simp at hz; subst hz; exact flat_ok hl _ (List.getElem_mem hx'))).any (by simp; omega) (by simp [maxLen]; omega) fun r' w6 hO6 hs6 => ?_
    refine IN2_next hle hi' ⟨hs6.ext0 hE2 (fun k hk => (hO.blk k hk).1), ?_⟩
    rw [map_take_succ hi', hxy]
    simpa [hx'] using hO6
  · have : i = n.ends[v].length := by omega
    subst this
    exact ⟨hE1.trans hE2, (by simpa using hO : OwnL w2 w1.heap.size T.t_int out (n.ends[v].map fun e => l.getD e.1.toNat 0)).low hE1.size_le⟩

theorem neNear_ok {w : World} {a b c : Sl} {n : Net} (h : RNet w a b c n) (hg : Good n) {v : Nat} (hv : v < n.ends.length) :
    Calls Try.prog F.s_neNear #[.agg #[a.v, b.v, c.v], .int .i64 v] w (Ret [.at .sl] fun (r : Sl) w' => Ext w w' ∧ OwnL w' w.heap.size T.t_int r (adjOf n.ends v)) := by
  refine C_s_neNear ?_
  unfold V_s_neNear adjOf
  rw [rowOf_get hv]
  refine NEW_intro fun p w1 hp hs hE1 hb1 => LD_bs0 hb1 ?_
  replace h := h.ext hE1
  refine h.1.ixL hv fun q s1 hR hc => LD_sl hc ?_
  rw [hR.len]
  have hle := hR.le
  refine ⟨IN2 n.ends[v].length fun i out w' => Ext w1 w' ∧ OwnL w' w1.heap.size T.t_int out ((n.ends[v].take i).map (·.1)), MN2 n.ends[v].length, IN2_zero ⟨Ext.refl _, by simpa using OwnL.nil _ _ _⟩, ?_⟩
  rintro out _ w2 ⟨i, rfl, hi, hE2, hO⟩
  intros
  refine cond_dec (fun hlt => ?_) (fun hge => ?_)
  · have hi' : i < n.ends[v].length := by omega
    replace hR := hR.ext hE2
    refine hR.ixE hi' fun q h1 _ hc0 hc1 => LD_int2 hc0 hc1 ?_
    refine NEW_ST (one2 _ _) rfl fun p6 w4 hp6 hE4 hb6 => ?_
    refine LD_bi0 hb6 ?_
    replace hE2 := hE2.ext hE4
    replace hO := hO.ext hE4
    refine RUN_lit1 (α := Int) slt_int n.ends[v][i].1 rfl (by decide) fun r w5 hE5 hO5 => ?_
    replace hE2 := hE2.ext hE5
    replace hO := hO.ext hE5
    have hd := hg.deg hv
    refine RUN_append (α := Int) slt_int hO hE2.size_le (hO5.rep (by intro z hz; simp at hz; subst hz; exact h1)).any (by simp; omega) (by simp [maxLen]; omega) fun r' w6 hO6 hs6 => ?_
    refine IN2_next hle hi' ⟨hs6.ext0 hE2 (fun k hk => (hO.blk k hk).1), ?_⟩
    rw [map_take_succ hi']
    exact hO6
  · have : i = n.ends[v].length := by omega
    subst this
    exact ⟨hE1.trans hE2, (by simpa using hO : OwnL w2 w1.heap.size T.t_int out (n.ends[v].map (·.1))).low hE1.size_le⟩

theorem adj_ok {n : Net} (hg : Good n) {v : Nat} (hv : v < n.ends.length) : ∀ x ∈ adjOf n.ends v, ∃ u : Nat, x = u ∧ u < n.ends.length := by
  intro x hx
  unfold adjOf at hx
  rw [rowOf_get hv] at hx
  obtain ⟨e, he, rfl⟩ := List.mem_map.1 hx
  obtain ⟨i, hi, rfl⟩ := List.mem_iff_getElem.1 he
  obtain ⟨x, y, hxy, hx, _⟩ := hg.far hv hi
  exact ⟨x, by rw [hxy], hx⟩

theorem adj_I64 {n : Net} (hg : Good n) {v : Nat} (hv : v < n.ends.length) : ∀ x ∈ adjOf n.ends v, Flat.ok x := by
  intro x hx
  obtain ⟨u, rfl, hu⟩ := adj_ok hg hv x hx
  have := hg.size.2
  show I64 _
  unfold I64
  omega

theorem adj_len {n : Net} (_ : Good n) {v : Nat} (hv : v < n.ends.length) : (adjOf n.ends v).length = n.ends[v].length := by
  unfold adjOf; rw [rowOf_get hv]; simp

theorem near_adj (E : Ends) (l : List Int) (v : Nat) : nearOf E l v = (adjOf E v).map fun u => l.getD u.toNat 0 := by
  unfold nearOf adjOf; rw [List.map_map]; rfl

theorem oneIf_ok (x : Bool) (w : World) : Calls Try.prog F.i_oneIf #[.bool x] w (Ret [.at (.int .i64)] fun (r : Int) w' => r = (if x then 1 else 0) ∧ w = w') := by
  refine C_i_oneIf ?_
  unfold V_i_oneIf
  exact cond_b (fun h => ⟨by simp [h], rfl⟩) (fun h => ⟨by simp [h], rfl⟩)

/-- How many neighbours bear c. -/
def sameCount (E : Ends) (l : List Int) (v : Nat) (c : Int) : Nat := (nearOf E l v).count c

theorem count_take_succ {l : List Int} {i : Nat} (hi : i < l.length) (c : Int) : (l.take (i + 1)).count c = (l.take i).count c + if l[i] == c then 1 else 0 := by
  rw [List.take_succ_eq_append_getElem hi, List.count_append, List.count_singleton]

theorem portsWith_ok {w : World} {a b c s : Sl} {n : Net} {l : List Int} (h : RNet w a b c n) (hl : R w s l) (hg : Good n) (hlen : l.length = n.ends.length) {v : Nat} (hv : v < n.ends.length) (k : Int) :
    Calls Try.prog F.i_portsWith #[.agg #[a.v, b.v, c.v], .int .i64 v, s.v, .int .i64 k] w (Ret [.at (.int .i64)] fun (r : Int) w' => r = sameCount n.ends l v k ∧ Ext w w') := by
  refine C_i_portsWith ?_
  unfold V_i_portsWith
  refine NEW_intro fun p w1 hp hs hE1 hb1 => LD_box3 hb1 ?_
  replace h := h.ext hE1
  replace hl := hl.ext hE1
  refine call (near_ok h hl hg hlen hv) ?_
  rintro r w2 ⟨hE2, hO⟩
  have hok : ∀ x ∈ nearOf n.ends l v, I64 x := by
    intro x hx
    rw [near_adj] at hx
    obtain ⟨u, hu, rfl⟩ := List.mem_map.1 hx
    obtain ⟨m, rfl, hm⟩ := adj_ok hg hv u hu
    have : m < l.length := by omega
    simp [this]
    exact flat_ok hl _ (List.getElem_mem this)
  have hR := (hO.rep hok).any
  rw [hR.len]
  have hnl : (nearOf n.ends l v).length ≤ 6 := by rw [near_adj, List.length_map, adj_len hg hv]; exact hg.deg hv
  refine ⟨IN2 (nearOf n.ends l v).length fun i cnt w' => w2 = w' ∧ cnt = (((nearOf n.ends l v).take i).count k : Nat), MN2 (nearOf n.ends l v).length, IN2_zero ⟨rfl, by simp⟩, ?_⟩
  rintro cnt _ w3 ⟨i, rfl, hi, rfl, rfl⟩
  intros
  refine cond_dec (fun hlt => ?_) (fun hge => ?_)
  · have hi' : i < (nearOf n.ends l v).length := by omega
    refine hR.ixI hi' fun q _ hc => LD_int hc ?_
    refine call (oneIf_ok _ _) ?_
    rintro r _ ⟨rfl, rfl⟩
    have hcl : ((nearOf n.ends l v).take i).count k ≤ i := Nat.le_trans (List.count_le_length) (by simp; omega)
    refine IN2_next (by omega) hi' ⟨rfl, ?_⟩
    rw [count_take_succ hi' k]
    split
    · rw [wrap_of (by omega) (by omega)]; omega
    · rw [wrap_of (by omega) (by omega)]; omega
  · have : i = (nearOf n.ends l v).length := by omega
    subst this
    exact ⟨by simp [sameCount], hE1.trans hE2⟩

theorem ruSame_ok {w : World} {a b c s : Sl} {n : Net} {l : List Int} (h : RNet w a b c n) (hl : R w s l) (hg : Good n) (hlen : l.length = n.ends.length) {v : Nat} (hv : v < n.ends.length) (k : Int) :
    Calls Try.prog F.s_ruSame #[.agg #[a.v, b.v, c.v], s.v, .int .i64 v, .int .i64 k] w (Ret [.at (.int .i64)] fun (r : Int) w' => r = sameCount n.ends l v k ∧ Ext w w') := by
  refine C_s_ruSame ?_
  unfold V_s_ruSame
  refine NEW_intro fun p w1 hp hs hE1 hb1 => LD_box3 hb1 ?_
  replace h := h.ext hE1
  replace hl := hl.ext hE1
  refine call (neNear_ok h hg hv) ?_
  rintro r w2 ⟨hE2, hO⟩
  replace hl := hl.ext hE2
  have hR := (hO.rep (adj_I64 hg hv)).any
  rw [hR.len]
  have hal := adj_len hg hv
  have hd := hg.deg hv
  have hnl : (nearOf n.ends l v).length = (adjOf n.ends v).length := by rw [near_adj, List.length_map]
  refine ⟨IN2 (adjOf n.ends v).length fun i cnt w' => w2 = w' ∧ cnt = (((nearOf n.ends l v).take i).count k : Nat), MN2 (adjOf n.ends v).length, IN2_zero ⟨rfl, by simp⟩, ?_⟩
  rintro cnt _ w3 ⟨i, rfl, hi, rfl, rfl⟩
  intros
  refine cond_dec (fun hlt => ?_) (fun hge => ?_)
  · have hi' : i < (adjOf n.ends v).length := by omega
    refine hR.ixI hi' fun q _ hc => LD_int hc ?_
    obtain ⟨u, hu, hul⟩ := adj_ok hg hv _ (List.getElem_mem hi')
    rw [hu]
    have hul' : u < l.length := by omega
    refine hl.ixI hul' fun q _ hc => LD_int hc ?_
    have hcl : ((nearOf n.ends l v).take i).count k ≤ i := Nat.le_trans (List.count_le_length) (by simp; omega)
    have hni : i < (nearOf n.ends l v).length := by omega
    have hnv : (nearOf n.ends l v)[i] = l[u] := by
      have : (nearOf n.ends l v)[i] = l.getD (adjOf n.ends v)[i].toNat 0 := by simp [near_adj]
      rw [this, hu]; simp [hul']
    refine cond_eq (fun he => IN2_next (by omega) hi' ⟨rfl, ?_⟩) (fun he => IN2_next (by omega) hi' ⟨rfl, ?_⟩)
    · rw [count_take_succ hni k, hnv, wrap_of (by omega) (by omega), he]
      simp
    · rw [count_take_succ hni k, hnv]
      simp [he]
  · have : i = (adjOf n.ends v).length := by omega
    subst this
    exact ⟨by simp [sameCount, ← hnl], hE1.trans hE2⟩

/-! ### Colours -/

structure ColoursOk (n : Net) (l : List Int) : Prop where
  good : Good n
  len : l.length = n.ends.length
  all : AllIn l 0 1000000000000

theorem areColours_ok {w : World} {a b c s : Sl} {n : Net} {l : List Int} (h : RNet w a b c n) (hl : R w s l) (hn : Small n) :
    Calls Try.prog F.i_areColours #[.agg #[a.v, b.v, c.v], s.v] w (Ret [.at .bool] fun (x : Bool) w' => (x = true ↔ ColoursOk n l) ∧ Ext w w') := by
  refine C_i_areColours ?_
  unfold V_i_areColours
  refine NEW_intro fun p w1 hp hs hE1 hb1 => LD_box3 hb1 ?_
  replace h := h.ext hE1
  replace hl := hl.ext hE1
  refine call (isNetwork_ok h hn.2.2.1) ?_
  rintro x w2 ⟨hx, hE2⟩
  have hE := hE1.trans hE2
  replace h := h.ext hE2
  replace hl := hl.ext hE2
  replace hb1 := hb1.ext hE2
  refine cond_b (fun ht => ?_) (fun hf => ⟨?_, hE⟩)
  · refine LD_bs0 hb1 ?_
    rw [hl.len, h.1.len]
    refine cond_eq (fun he => ?_) (fun hne => ⟨?_, hE⟩)
    · refine call (allWithin_ok hl _ _) ?_
      rintro y w3 ⟨hy, hE3⟩
      refine ⟨?_, hE.trans hE3⟩
      rw [hy]
      exact ⟨fun h1 => ⟨hx.1 ht, by omega, h1⟩, fun h1 => h1.all⟩
    · simp only [Bool.false_eq_true, false_iff]
      intro h1; have := h1.len; omega
  · simp only [Bool.false_eq_true, false_iff]
    intro h1
    rw [hx.2 h1.good] at hf; cases hf

theorem ruColours_ok {w : World} {a b c s : Sl} {n : Net} {l : List Int} (h : RNet w a b c n) (hl : R w s l) :
    Calls Try.prog F.s_ruColours #[.agg #[a.v, b.v, c.v], s.v] w (Ret [.at .bool] fun (x : Bool) w' => (x = true ↔ ColoursOk n l) ∧ Ext w w') := by
  refine C_s_ruColours ?_
  unfold V_s_ruColours
  refine NEW_intro fun p w1 hp hs hE1 hb1 => LD_box3 hb1 ?_
  replace h := h.ext hE1
  replace hl := hl.ext hE1
  refine call (neGood_ok h) ?_
  rintro x w2 ⟨hx, hE2⟩
  have hE := hE1.trans hE2
  replace h := h.ext hE2
  replace hl := hl.ext hE2
  replace hb1 := hb1.ext hE2
  refine cond_b (fun ht => ?_) (fun hf => ⟨?_, hE⟩)
  · refine LD_bs0 hb1 ?_
    rw [hl.len, h.1.len]
    refine cond_eq (fun he => ?_) (fun hne => ⟨?_, hE⟩)
    · refine call (l1All_ok hl _ _) ?_
      rintro y _ ⟨hy, rfl⟩
      refine ⟨?_, hE⟩
      rw [hy]
      exact ⟨fun h1 => ⟨hx.1 ht, by omega, h1⟩, fun h1 => h1.all⟩
    · simp only [Bool.false_eq_true, false_iff]
      intro h1; have := h1.len; omega
  · simp only [Bool.false_eq_true, false_iff]
    intro h1
    rw [hx.2 h1.good] at hf; cases hf

/-! ### IsDefective -/

def Defective (n : Net) (l : List Int) (d : Int) : Prop := ∀ v < l.length, (sameCount n.ends l v (l.getD v 0) : Int) ≤ d

theorem isDefective_k1 {w w0 : World} {a b c s : Sl} {n : Net} {l : List Int} {p : Addr} {t : TypeId} (h : RNet w a b c n) (hl : R w s l) (hb : Box w p t [a.v, b.v, c.v]) (hC : ColoursOk n l) {d : Int} (hd : 0 ≤ d) (hE0 : Ext w0 w) :
    V_i_IsDefective_k1 s d (fun x y w' => Ans2 (ColoursOk n l ∧ 0 ≤ d) (Defective n l d) x y ∧ Ext w0 w') p w := by
  unfold V_i_IsDefective_k1
  rw [hl.len]
  have hle := hl.le
  refine ⟨IN l.length fun v w' => Ext w w' ∧ ∀ u < v, (sameCount n.ends l u (l.getD u 0) : Int) ≤ d, MN l.length, IN_zero ⟨Ext.refl _, fun u hu => absurd hu (by omega)⟩, ?_⟩
  rintro _ w1 ⟨v, rfl, hv, hE1, hI⟩
  intros
  replace h := h.ext hE1
  replace hl := hl.ext hE1
  replace hb := hb.ext hE1
  replace hE0 := hE0.ext hE1
  refine cond_dec (fun hlt => ?_) (fun hge => ⟨.mk ⟨hC, hd⟩ ?_, hE0⟩)
  · have hv' : v < l.length := by omega
    have hlen := hC.len
    have hgd : l.getD v 0 = l[v] := by simp [hv']
    refine hl.ixI hv' fun q _ hc => LD_int hc (LD_box3 hb ?_)
    refine call (portsWith_ok h hl hC.good hC.len (by omega) _) ?_
    rintro r w2 ⟨rfl, hE2⟩
    replace hE0 := hE0.ext hE2
    replace hE1 := hE1.ext hE2
    refine cond_dec (fun hgt => ⟨.mk ⟨hC, hd⟩ ?_, hE0⟩) (fun hng => IN_next hle hv' ⟨hE1, all_succ hI (by rw [hgd]; omega)⟩)
    simp only [Bool.false_eq_true, false_iff]
    intro hD
    have := hD v hv'
    rw [hgd] at this
    omega
  · simp only [true_iff]
    exact fun u hu => hI u (by omega)

theorem sIsDefective_k1 {w w0 : World} {a b c s : Sl} {n : Net} {l : List Int} {p : Addr} {t : TypeId} (h : RNet w a b c n) (hl : R w s l) (hb : Box w p t [a.v, b.v, c.v]) (hC : ColoursOk n l) {d : Int} (hd : 0 ≤ d) (hE0 : Ext w0 w) :
    V_s_IsDefective_k1 s d (fun x y w' => Ans2 (ColoursOk n l ∧ 0 ≤ d) (Defective n l d) x y ∧ Ext w0 w') p w := by
  unfold V_s_IsDefective_k1
  rw [hl.len]
  have hle := hl.le
  refine ⟨IN l.length fun v w' => Ext w w' ∧ ∀ u < v, (sameCount n.ends l u (l.getD u 0) : Int) ≤ d, MN l.length, IN_zero ⟨Ext.refl _, fun u hu => absurd hu (by omega)⟩, ?_⟩
  rintro _ w1 ⟨v, rfl, hv, hE1, hI⟩
  intros
  replace h := h.ext hE1
  replace hl := hl.ext hE1
  replace hb := hb.ext hE1
  replace hE0 := hE0.ext hE1
  refine cond_dec (fun hlt => ?_) (fun hge => ⟨.mk ⟨hC, hd⟩ ?_, hE0⟩)
  · have hv' : v < l.length := by omega
    have hlen := hC.len
    have hgd : l.getD v 0 = l[v] := by simp [hv']
    refine hl.ixI hv' fun q _ hc => LD_int hc (LD_box3 hb ?_)
    refine call (ruSame_ok h hl hC.good hC.len (by omega) _) ?_
    rintro r w2 ⟨rfl, hE2⟩
    replace hE0 := hE0.ext hE2
    replace hE1 := hE1.ext hE2
    refine cond_dec (fun hgt => ⟨.mk ⟨hC, hd⟩ ?_, hE0⟩) (fun hng => IN_next hle hv' ⟨hE1, all_succ hI (by rw [hgd]; omega)⟩)
    simp only [Bool.false_eq_true, false_iff]
    intro hD
    have := hD v hv'
    rw [hgd] at this
    omega
  · simp only [true_iff]
    exact fun u hu => hI u (by omega)

theorem IsDefective_ok {w : World} {a b c s : Sl} {n : Net} {l : List Int} (h : RNet w a b c n) (hl : R w s l) (d : Int) (hn : Small n) :
    Calls Try.prog F.i_IsDefective #[.agg #[a.v, b.v, c.v], s.v, .int .i64 d] w (Ret [.at .bool, .at .bool] fun (x y : Bool) w' => Ans2 (ColoursOk n l ∧ 0 ≤ d) (Defective n l d) x y ∧ Ext w w') := by
  refine C_i_IsDefective ?_
  unfold V_i_IsDefective
  refine NEW_intro fun p w1 hp hs hE1 hb1 => LD_box3 hb1 ?_
  replace h := h.ext hE1
  replace hl := hl.ext hE1
  refine call (areColours_ok h hl hn) ?_
  rintro x w2 ⟨hx, hE2⟩
  have hE := hE1.trans hE2
  replace h := h.ext hE2
  replace hl := hl.ext hE2
  replace hb1 := hb1.ext hE2
  refine cond_not (fun hf => ⟨.no fun hg => ?_, hE⟩) (fun ht => ?_)
  · rw [hx.2 hg.1] at hf; cases hf
  refine cond_dec (fun hlt => ⟨.no fun hg => ?_, hE⟩) (fun hge => isDefective_k1 h hl hb1 (hx.1 ht) (by omega) hE)
  have := hg.2
  omega

theorem sIsDefective_ok {w : World} {a b c s : Sl} {n : Net} {l : List Int} (h : RNet w a b c n) (hl : R w s l) (d : Int) :
    Calls Try.prog F.s_IsDefective #[.agg #[a.v, b.v, c.v], s.v, .int .i64 d] w (Ret [.at .bool, .at .bool] fun (x y : Bool) w' => Ans2 (ColoursOk n l ∧ 0 ≤ d) (Defective n l d) x y ∧ Ext w w') := by
  refine C_s_IsDefective ?_
  unfold V_s_IsDefective
  refine NEW_intro fun p w1 hp hs hE1 hb1 => LD_box3 hb1 ?_
  replace h := h.ext hE1
  replace hl := hl.ext hE1
  refine call (ruColours_ok h hl) ?_
  rintro x w2 ⟨hx, hE2⟩
  have hE := hE1.trans hE2
  replace h := h.ext hE2
  replace hl := hl.ext hE2
  replace hb1 := hb1.ext hE2
  refine cond_not (fun hf => ⟨.no fun hg => ?_, hE⟩) (fun ht => ?_)
  · rw [hx.2 hg.1] at hf; cases hf
  refine cond_dec (fun hlt => ⟨.no fun hg => ?_, hE⟩) (fun hge => sIsDefective_k1 h hl hb1 (hx.1 ht) (by omega) hE)
  have := hg.2
  omega

/-! ### IsWeak -/

def WeakAt (n : Net) (l : List Int) (v : Nat) : Prop := 0 < (rowOf n.ends v).length → sameCount n.ends l v (l.getD v 0) ≠ (rowOf n.ends v).length

def Weak (n : Net) (l : List Int) : Prop := ∀ v < n.ends.length, WeakAt n l v

theorem IsWeak_ok {w : World} {a b c s : Sl} {n : Net} {l : List Int} (h : RNet w a b c n) (hl : R w s l) (hn : Small n) :
    Calls Try.prog F.i_IsWeak #[.agg #[a.v, b.v, c.v], s.v] w (Ret [.at .bool, .at .bool] fun (x y : Bool) w' => Ans2 (ColoursOk n l) (Weak n l) x y ∧ Ext w w') := by
  refine C_i_IsWeak ?_
  unfold V_i_IsWeak
  refine NEW_intro fun p w1 hp hs hE1 hb1 => LD_box3 hb1 ?_
  replace h := h.ext hE1
  replace hl := hl.ext hE1
  refine call (areColours_ok h hl hn) ?_
  rintro x w2 ⟨hx, hE2⟩
  have hE := hE1.trans hE2
  replace h := h.ext hE2
  replace hl := hl.ext hE2
  replace hb1 := hb1.ext hE2
  refine cond_not (fun hf => ⟨.no fun hg => ?_, hE⟩) (fun ht => ?_)
  · rw [hx.2 hg] at hf; cases hf
  have hC := hx.1 ht
  refine LD_bs0 hb1 ?_
  rw [h.1.len]
  have hle := h.1.le
  refine ⟨IN n.ends.length fun v w' => Ext w2 w' ∧ ∀ u < v, WeakAt n l u, MN n.ends.length, IN_zero ⟨Ext.refl _, fun u hu => absurd hu (by omega)⟩, ?_⟩
  rintro _ w3 ⟨v, rfl, hv, hE3, hI⟩
  intros
  replace h := h.ext hE3
  replace hl := hl.ext hE3
  replace hb1 := hb1.ext hE3
  replace hE := hE.ext hE3
  refine cond_dec (fun hlt => ?_) (fun hge => ⟨.mk hC ?_, hE⟩)
  · have hv' : v < n.ends.length := by omega
    have hlen := hC.len
    have hvl : v < l.length := by omega
    have hgd : l.getD v 0 = l[v] := by simp [hvl]
    refine h.1.ixL hv' fun q s1 hR hc => LD_sl hc ?_
    rw [hR.len]
    refine cond_dec (fun hpos => ?_) (fun hnp w5 hE5 => IN_next hle hv' ⟨hE3.trans hE5, all_succ hI (fun h0 => absurd h0 (by rw [rowOf_get hv']; omega))⟩)
    refine LD_box3 hb1 ?_
    refine hl.ixI hvl fun q _ hc => LD_int hc ?_
    refine QCALL_int _ (fun w' hw' => portsWith_ok (h.ext hw') (hl.ext hw') hC.good hC.len hv' _) ?_
    intro w5 hE5
    replace hE := hE.ext hE5
    replace hE3 := hE3.ext hE5
    refine cond_eq (fun he => ⟨.mk hC ?_, hE⟩) (fun hne => IN_next hle hv' ⟨hE3, all_succ hI (fun _ => by rw [rowOf_get hv', hgd]; omega)⟩)
    simp only [Bool.false_eq_true, false_iff]
    intro hD
    have := hD v hv'
    unfold WeakAt at this
    rw [hgd, rowOf_get hv'] at this
    omega
  · simp only [true_iff]
    exact fun u hu => hI u (by omega)

theorem sIsWeak_ok {w : World} {a b c s : Sl} {n : Net} {l : List Int} (h : RNet w a b c n) (hl : R w s l) :
    Calls Try.prog F.s_IsWeak #[.agg #[a.v, b.v, c.v], s.v] w (Ret [.at .bool, .at .bool] fun (x y : Bool) w' => Ans2 (ColoursOk n l) (Weak n l) x y ∧ Ext w w') := by
  refine C_s_IsWeak ?_
  unfold V_s_IsWeak
  refine NEW_intro fun p w1 hp hs hE1 hb1 => LD_box3 hb1 ?_
  replace h := h.ext hE1
  replace hl := hl.ext hE1
  refine call (ruColours_ok h hl) ?_
  rintro x w2 ⟨hx, hE2⟩
  have hE := hE1.trans hE2
  replace h := h.ext hE2
  replace hl := hl.ext hE2
  replace hb1 := hb1.ext hE2
  refine cond_not (fun hf => ⟨.no fun hg => ?_, hE⟩) (fun ht => ?_)
  · rw [hx.2 hg] at hf; cases hf
  have hC := hx.1 ht
  rw [hl.len]
  have hle := hl.le
  have hlen := hC.len
  refine ⟨IN l.length fun v w' => Ext w2 w' ∧ ∀ u < v, WeakAt n l u, MN l.length, IN_zero ⟨Ext.refl _, fun u hu => absurd hu (by omega)⟩, ?_⟩
  rintro _ w3 ⟨v, rfl, hv, hE3, hI⟩
  intros
  replace h := h.ext hE3
  replace hl := hl.ext hE3
  replace hb1 := hb1.ext hE3
  replace hE := hE.ext hE3
  refine cond_dec (fun hlt => ?_) (fun hge => ⟨.mk hC ?_, hE⟩)
  · have hvl : v < l.length := by omega
    have hv' : v < n.ends.length := by omega
    have hgd : l.getD v 0 = l[v] := by simp [hvl]
    refine hl.ixI hvl fun q _ hc => LD_int hc (LD_bs0 hb1 ?_)
    refine h.1.ixL hv' fun q s1 hR hc => LD_sl hc ?_
    rw [hR.len]
    refine cond_dec (fun hpos => ?_) (fun hnp w5 hE5 => IN_next hle hvl ⟨hE3.trans hE5, all_succ hI (fun h0 => absurd h0 (by rw [rowOf_get hv']; omega))⟩)
    refine LD_box3 hb1 ?_
    refine QCALL_int _ (fun w' hw' => ruSame_ok (h.ext hw') (hl.ext hw') hC.good hC.len hv' _) ?_
    refine LD_bs0 hb1 ?_
    refine h.1.ixL hv' fun q s1 hR hc => LD_sl hc ?_
    rw [hR.len]
    intro w5 hE5
    replace hE := hE.ext hE5
    replace hE3 := hE3.ext hE5
    refine cond_eq (fun he => ⟨.mk hC ?_, hE⟩) (fun hne => IN_next hle hvl ⟨hE3, all_succ hI (fun _ => by rw [rowOf_get hv', hgd]; omega)⟩)
    simp only [Bool.false_eq_true, false_iff]
    intro hD
    have := hD v hv'
    unfold WeakAt at this
    rw [hgd, rowOf_get hv'] at this
    omega
  · simp only [true_iff]
    exact fun u hu => hI u (by omega)

end Go.Proofs.Ytghibjghjjnchaa
