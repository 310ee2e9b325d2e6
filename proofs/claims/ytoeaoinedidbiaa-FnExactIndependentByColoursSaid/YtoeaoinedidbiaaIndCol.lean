/- Independent sets by colours, both sides. -/
import Derived.Test.YtoeaoinedidbiaaStable
import Derived.Test.YtoeaoinedidbiaaOrder
import Derived.Test.YtoeaoinedidbiaaDom
import Derived.Test.YtoeaoinedidbiaaReduce
namespace Go.Proofs.Ytoeaoinedidbiaa
open Go.GX Go.RowKit
set_option maxRecDepth 100000

/-! ### The order of the nodes by their colours -/

def colAt (l : List Int) (x : Int) : Int := l.getD x.toNat 0
/-- Of the first nodes those with a colour. -/
def byTo (l : List Int) (c : Int) (v : Nat) : List Int := ((List.range v).filter fun u => l.getD u 0 == c).map fun (u : Nat) => (u : Int)
def ordTo (l : List Int) : Nat → List Int
  | 0 => []
  | c + 1 => ordTo l c ++ byTo l c l.length

theorem byTo_succ (l : List Int) (c : Int) (v : Nat) : byTo l c (v + 1) = byTo l c v ++ if l.getD v 0 == c then [(v : Int)] else [] := by
  unfold byTo
  rw [List.range_succ, List.filter_append, List.map_append]
  congr 1
  cases h : (l.getD v 0 == c) <;> simp only [List.filter_cons, h, List.filter_nil, List.map_cons, List.map_nil, if_true, Bool.false_eq_true, if_false]

theorem mem_byTo {l : List Int} {c : Int} {v : Nat} {x : Int} : x ∈ byTo l c v ↔ ∃ u : Nat, x = u ∧ u < v ∧ l.getD u 0 = c := by
  unfold byTo
  simp only [List.mem_map, List.mem_filter, List.mem_range, beq_iff_eq]
  constructor
  · rintro ⟨u, ⟨h1, h2⟩, rfl⟩; exact ⟨u, rfl, h1, h2⟩
  · rintro ⟨u, rfl, h1, h2⟩; exact ⟨u, ⟨h1, h2⟩, rfl⟩

theorem mem_ordTo {l : List Int} {x : Int} : ∀ {c : Nat}, x ∈ ordTo l c ↔ ∃ u k : Nat, x = u ∧ u < l.length ∧ k < c ∧ l.getD u 0 = k
  | 0 => by simp [ordTo]
  | c + 1 => by
    unfold ordTo
    rw [List.mem_append, mem_ordTo (c := c), mem_byTo]
    constructor
    · rintro (⟨u, k, h1, h2, h3, h4⟩ | ⟨u, h1, h2, h3⟩)
      · exact ⟨u, k, h1, h2, by omega, h4⟩
      · exact ⟨u, c, h1, h2, by omega, h3⟩
    · rintro ⟨u, k, h1, h2, h3, h4⟩
      by_cases hk : k = c
      · subst hk; exact .inr ⟨u, h1, h2, h4⟩
      · exact .inl ⟨u, k, h1, h2, by omega, h4⟩

theorem byTo_pairwise (l : List Int) (c : Int) (v : Nat) : (byTo l c v).Pairwise (ltK (colAt l)) := by
  unfold byTo
  rw [List.pairwise_map]
  refine List.Pairwise.imp_of_mem (R := fun (a b : Nat) => a < b) ?_ ((List.pairwise_lt_range).filter _)
  intro a b ha hb hab
  have h1 := (List.mem_filter.1 ha).2
  have h2 := (List.mem_filter.1 hb).2
  simp only [beq_iff_eq] at h1 h2
  right
  simp only [colAt, Int.toNat_natCast]
  rw [h1, h2]
  exact ⟨rfl, by omega⟩

theorem ordTo_pairwise (l : List Int) : ∀ c, (ordTo l c).Pairwise (ltK (colAt l))
  | 0 => by simp [ordTo]
  | c + 1 => by
    unfold ordTo
    rw [List.pairwise_append]
    refine ⟨ordTo_pairwise l c, byTo_pairwise l c _, fun x hx y hy => ?_⟩
    obtain ⟨u, k, rfl, _, hk, h1⟩ := mem_ordTo.1 hx
    obtain ⟨v, rfl, _, h2⟩ := mem_byTo.1 hy
    left
    simp only [colAt, Int.toNat_natCast]
    rw [h1, h2]; omega

theorem ltK_irr {key : Int → Int} {l : List Int} (h : l.Pairwise (ltK key)) : l.Nodup := h.imp fun {a b} hab he => by subst he; unfold ltK at hab; omega

theorem upTo_nodup (n : Nat) : (upTo n).Nodup := by
  unfold upTo
  exact List.pairwise_map.2 (List.nodup_range.imp fun h e => h (by omega))
theorem mem_upTo {n : Nat} {x : Int} : x ∈ upTo n ↔ ∃ u : Nat, x = u ∧ u < n := by
  unfold upTo
  simp only [List.mem_map, List.mem_range]
  constructor
  · rintro ⟨u, hu, rfl⟩; exact ⟨u, rfl, hu⟩
  · rintro ⟨u, rfl, hu⟩; exact ⟨u, hu, rfl⟩

theorem ord_perm {l : List Int} {m : Nat} (hall : ∀ x ∈ l, 0 ≤ x ∧ x < m) : (upTo l.length).Perm (ordTo l m) := by
  refine (List.perm_ext_iff_of_nodup (upTo_nodup _) (ltK_irr (ordTo_pairwise l m))).2 fun x => ?_
  rw [mem_ordTo, mem_upTo]
  constructor
  · rintro ⟨u, rfl, hu⟩
    have := hall _ (List.getElem_mem hu)
    refine ⟨u, l[u].toNat, rfl, hu, by omega, by simp [hu]; omega⟩
  · rintro ⟨u, k, rfl, hu, _⟩
    exact ⟨u, rfl, hu⟩

/-- The order is the only sorted one. -/
theorem ord_unique {l l' : List Int} {m : Nat} (hall : ∀ x ∈ l, 0 ≤ x ∧ x < m) (hp : l'.Perm (upTo l.length)) (hs : l'.Pairwise (ltK (colAt l))) : l' = ordTo l m :=
  (hp.trans (ord_perm hall)).eq_of_pairwise (fun a b _ _ h1 h2 => by unfold ltK at h1 h2; omega) hs (ordTo_pairwise l m)

theorem byTo_len (l : List Int) (c : Int) (v : Nat) : (byTo l c v).length ≤ v := by
  unfold byTo
  have := List.length_filter_le (fun u => l.getD u 0 == c) (List.range v)
  simp only [List.length_range] at this
  rw [List.length_map]; exact this
theorem ordTo_len (l : List Int) : ∀ c, (ordTo l c).length ≤ c * l.length
  | 0 => by simp [ordTo]
  | c + 1 => by
    unfold ordTo
    rw [List.length_append, Nat.succ_mul]
    have := ordTo_len l c
    have := byTo_len l c l.length
    omega

theorem upTo_incr (n : Nat) : (upTo n).Pairwise (· < ·) := by
  unfold upTo
  exact List.pairwise_map.2 (List.pairwise_lt_range.imp fun h => by omega)

/-! ### What is asked, and the program's side -/

structure IcAsked (n : Net) (l : List Int) : Prop where
  good : Good n
  len : l.length = n.ends.length
  all : AllIn l 0 40
  apart : (edgesOf n.ends).any (fun q => q.1 != q.2.2.1 && colAt l q.1 == colAt l q.2.2.1) = false

def icRounds (l : List Int) : Nat := (mostOf l).toNat + 1
def icSet (n : Net) (l : List Int) : List Int := sortI (greedyI n.ends (ordTo l (icRounds l)))

theorem ic_all {l : List Int} (h : AllIn l 0 40) : ∀ x ∈ l, 0 ≤ x ∧ x < (icRounds l : Nat) := fun x hx => by
  have := (mostOf_spec l).2.1 x hx
  have := h x hx
  unfold icRounds; omega

theorem ic_rounds {l : List Int} (h : AllIn l 0 40) : icRounds l ≤ 41 := by
  have := mostOf_le (l := l) (c := 40) (by omega) fun x hx => (h x hx).2
  unfold icRounds; omega

theorem colAt_get {l : List Int} {v : Nat} (hv : v < l.length) : colAt l (v : Int) = l[v] := by simp [colAt, hv]

theorem icClash_ok {n : Net} (hg : Good n) {l : List Int} (hlen : l.length = n.ends.length) {w : World} {s : Sl} {p : Addr} {t : TypeId} (hl : R w s l) (hb : Box w p t [s.v]) :
    ∀ q ∈ edgesOf n.ends, ∀ w', Ext w w' → CALLV Try.prog (.func (.func F.i_IndependentByColours_1) #[] #[.pointer (some p)]) (argsQ q) w' (Ret [.at .bool] fun (x : Bool) w'' => x = (q.1 != q.2.2.1 && colAt l q.1 == colAt l q.2.2.1) ∧ Ext w' w'') := by
  intro q hq w' hE
  obtain ⟨v, i, x, y, rfl, _, _, hv, hx, _, _⟩ := edge_at hg hq
  replace hl := hl.ext hE
  replace hb := hb.ext hE
  refine CALLV_mk (by kernel_rfl) ?_
  refine C_i_IndependentByColours_1 ?_
  unfold V_i_IndependentByColours_1
  refine NEW_intro fun pe w1 hpe hse hE1 hbe => LD_bi0 hbe (LD_bi2 hbe ?_)
  replace hl := hl.ext hE1
  replace hb := hb.ext hE1
  have hv' : v < l.length := by omega
  have hx' : x < l.length := by omega
  refine cond_ne (fun h1 => ?_) (fun h1 w3 hE3 => ⟨by have h1' : (v : Int) = (x : Int) := h1; simp only [h1', bne_self_eq_false, Bool.false_and], hE1.trans hE3⟩)
  refine LD_bs hb (LD_bi0 hbe ?_)
  refine hl.ixI hv' fun q _ hc => LD_int hc (LD_bs hb (LD_bi2 hbe ?_))
  refine hl.ixI hx' fun q _ hc => LD_int hc ?_
  intro w2 hE2
  refine ⟨?_, hE1.trans hE2⟩
  simp only
  rw [colAt_get hv', colAt_get hx']
  have : ((v : Int) != (x : Int)) = true := by simpa using h1
  rw [this, Bool.true_and]

theorem icLess_ok {l : List Int} {w0 : World} {s : Sl} {p : Addr} {t : TypeId} {D : Nat → Prop} (hl : SlR (fun b => ¬ D b) w0 s l) (hb : Box w0 p t [s.v]) (hpD : ¬ D p.block) (h40 : AllIn l 0 1000000000000) :
    ∀ x ∈ upTo l.length, ∀ y ∈ upTo l.length, ∀ w', Chg w0 w' D → CALLV Try.prog (.func (.func F.i_IndependentByColours_2) #[] #[.pointer (some p)]) #[.int .i64 x, .int .i64 y] w' (Ret [.at (.int .i64)] fun (r : Int) w'' => (r < 0 ↔ colAt l x < colAt l y) ∧ Ext w' w'') := by
  intro x hx y hy w' hC
  obtain ⟨u, rfl, hu⟩ := mem_upTo.1 hx
  obtain ⟨v, rfl, hv⟩ := mem_upTo.1 hy
  have hl' := hl.chg hC fun b hb _ => hb
  have hb' := hb.chg hC hpD
  refine CALLV_mk (by kernel_rfl) ?_
  refine C_i_IndependentByColours_2 ?_
  unfold V_i_IndependentByColours_2
  refine LD_bs hb' ?_
  refine hl'.ixI hu fun q _ hc => LD_int hc (LD_bs hb' ?_)
  refine hl'.ixI hv fun q _ hc => LD_int hc ?_
  intro w2 hE2
  have h1 := h40 _ (List.getElem_mem hu)
  have h2 := h40 _ (List.getElem_mem hv)
  rw [wrap_of (by omega) (by omega), colAt_get hu, colAt_get hv]
  exact ⟨by omega, hE2⟩


theorem flLess_ok {l : List Int} {w0 : World} {s : Sl} {p : Addr} {t : TypeId} {D : Nat → Prop} (hl : SlR (fun b => ¬ D b) w0 s l) (hb : Box w0 p t [s.v]) (hpD : ¬ D p.block) (h40 : AllIn l 0 1000000000000) :
    ∀ x ∈ upTo l.length, ∀ y ∈ upTo l.length, ∀ w', Chg w0 w' D → CALLV Try.prog (.func (.func F.i_ColourFromLists_1) #[] #[.pointer (some p)]) #[.int .i64 x, .int .i64 y] w' (Ret [.at (.int .i64)] fun (r : Int) w'' => (r < 0 ↔ colAt l x < colAt l y) ∧ Ext w' w'') := by
  intro x hx y hy w' hC
  obtain ⟨u, rfl, hu⟩ := mem_upTo.1 hx
  obtain ⟨v, rfl, hv⟩ := mem_upTo.1 hy
  have hl' := hl.chg hC fun b hb _ => hb
  have hb' := hb.chg hC hpD
  refine CALLV_mk (by kernel_rfl) ?_
  refine C_i_ColourFromLists_1 ?_
  unfold V_i_ColourFromLists_1
  refine LD_bs hb' ?_
  refine hl'.ixI hu fun q _ hc => LD_int hc (LD_bs hb' ?_)
  refine hl'.ixI hv fun q _ hc => LD_int hc ?_
  intro w2 hE2
  have h1 := h40 _ (List.getElem_mem hu)
  have h2 := h40 _ (List.getElem_mem hv)
  rw [wrap_of (by omega) (by omega), colAt_get hu, colAt_get hv]
  exact ⟨by omega, hE2⟩

theorem IndependentByColours_ok {w : World} {a b c s : Sl} {n : Net} {l : List Int} (h : RNet w a b c n) (hl : R w s l) (hn : Small n) :
    Calls Try.prog F.i_IndependentByColours #[.agg #[a.v, b.v, c.v], s.v] w (Ret [.at .sl, .at (.int .i64), .at .bool] fun (r : Sl) (x : Int) (y : Bool) w' => Ext w w' ∧ ∃ m, OutL w.heap.size w' r m ∧ AnsG (IcAsked n l) (icSet n l, (icRounds l : Int)) ([], 0) (m, x) y) := by
  refine C_i_IndependentByColours ?_
  unfold V_i_IndependentByColours
  refine NEW_intro fun p w1 hp hs1 hE1 hb1 => NEW_intro fun p2 w2 hp2 hs2 hE2 hb2 => LD_box3 (hb1.ext hE2) ?_
  have hE := hE1.trans hE2
  replace h := h.ext hE
  replace hl := hl.ext hE
  replace hb1 := hb1.ext hE2
  refine call (isNetwork_ok h hn.2.2.1) ?_
  rintro x w3 ⟨hx, hE3⟩
  replace hE := hE.ext hE3
  replace h := h.ext hE3
  replace hl := hl.ext hE3
  replace hb1 := hb1.ext hE3
  replace hb2 := hb2.ext hE3
  refine cond_not (fun hf => ⟨hE, [], OutL.nil _ _, .no fun hg => ?_⟩) (fun ht => ?_)
  · rw [hx.2 hg.good] at hf; cases hf
  have hg := hx.1 ht
  have h40 := hg.size.2
  refine LD_bs hb2 (LD_bs0 hb1 ?_)
  rw [hl.len, h.1.len]
  refine cond_ne (fun hne => ⟨hE, [], OutL.nil _ _, .no fun hA => ?_⟩) (fun heq => ?_)
  · have := hA.len; omega
  have hlen : l.length = n.ends.length := by omega
  refine LD_bs hb2 ?_
  refine call (allWithin_ok hl 0 40) ?_
  rintro y w4 ⟨hy, hE4⟩
  replace hE := hE.ext hE4
  replace h := h.ext hE4
  replace hl := hl.ext hE4
  replace hb1 := hb1.ext hE4
  replace hb2 := hb2.ext hE4
  refine cond_not (fun hf => ⟨hE, [], OutL.nil _ _, .no fun hA => ?_⟩) (fun ht2 => ?_)
  · rw [hy.2 hA.all] at hf; cases hf
  have hall := hy.1 ht2
  unfold V_i_IndependentByColours_k1
  refine LD_box3 hb1 ?_
  refine call (edges_ok h hg) ?_
  rintro r6 w6 ⟨hE6, hO6⟩
  replace hE := hE.ext hE6
  replace h := h.ext hE6
  replace hl := hl.ext hE6
  replace hb1 := hb1.ext hE6
  replace hb2 := hb2.ext hE6
  refine call (containsFuncQ_ok (hO6.rep (edge_I64 hg)).any (icClash_ok hg hlen hl hb2)) ?_
  rintro z w7 ⟨hz, hE7⟩
  replace hE := hE.ext hE7
  replace h := h.ext hE7
  replace hl := hl.ext hE7
  replace hb1 := hb1.ext hE7
  replace hb2 := hb2.ext hE7
  refine cond_b (fun ht3 => ⟨hE, [], OutL.nil _ _, .no fun hA => ?_⟩) (fun hf3 => ?_)
  · rw [hz, hA.apart] at ht3; cases ht3
  have hA : IcAsked n l := ⟨hg, hlen, hall, by rw [← hz]; exact hf3⟩
  have hr41 := ic_rounds hall
  refine LD_bs hb2 ?_
  rw [hl.len]
  refine call (numbersTo_ok l.length (by omega) w7) ?_
  rintro r8 w8 ⟨hE8, hO8⟩
  have hz7 := hE.size_le
  have hlt2 := hb2.lt
  have hD : ∀ k, oB r8 k → w7.heap.size ≤ k := fun k hk => (hO8.blk k hk).1
  refine call (sortStable_ok (key := colAt l) hO8 (upTo_ok _ (by omega)) (by rw [upTo_len]; omega) (upTo_incr _)
    (icLess_ok (D := oB r8) ((hl.below.ext hE8).weak (fun k hk _ hh => by have := hD k hh; omega) RepP.pos) (hb2.ext hE8) (fun hh => by have := hD _ hh; omega) (fun x hx => by have := hall x hx; omega))) ?_
  rintro w9 ⟨l', hO9, hC9, hperm, hsort⟩
  have hord := ord_unique (l := l) (ic_all hall) hperm hsort
  subst hord
  have hE79 : Ext w7 w9 := hC9.ext0 hE8 hD
  replace hE := hE.ext hE79
  replace h := h.ext hE79
  replace hl := hl.ext hE79
  replace hb1 := hb1.ext hE79
  replace hb2 := hb2.ext hE79
  intro w10 hE10 _
  replace hE := hE.ext hE10
  replace h := h.ext hE10
  replace hl := hl.ext hE10
  replace hb1 := hb1.ext hE10
  replace hb2 := hb2.ext hE10
  replace hO9 := hO9.ext hE10
  refine LD_box3 hb1 (LD_bs hb2 ?_)
  have hlenO : (ordTo l (icRounds l)).length = l.length := by rw [← (ord_perm (ic_all hall)).length_eq, upTo_len]
  have hRo := (hO9.rep fun x hx => by obtain ⟨u, _, rfl, hu, _⟩ := mem_ordTo.1 hx; show I64 _; unfold I64; omega).any
  refine call (greedyIndependent_ok h hRo hg (fun x hx => by obtain ⟨u, _, rfl, hu, _⟩ := mem_ordTo.1 hx; exact ⟨u, rfl, by omega⟩) (by omega)) ?_
  rintro r11 w11 ⟨hE11, hO11⟩
  refine ⟨hE11, ?_⟩
  refine call (max_ok (hl.ext hE11) (by have := hg.size.1; omega) fun x hx => (hall x hx).1) ?_
  rintro _ _ ⟨rfl, rfl⟩
  refine ⟨hE11, hE11, ?_⟩
  have hm0 := (mostOf_spec l).1
  have hm40 := mostOf_le (l := l) (c := 40) (by omega) fun x hx => (hall x hx).2
  have hz10 := hE.size_le
  rw [wrap_of (by omega) (by omega)]
  have e1 : mostOf l + 1 = (icRounds l : Int) := by unfold icRounds; omega
  rw [e1]
  refine ⟨hE.trans hE11, icSet n l, ⟨hO11.low hz10, sortI_I64 fun x hx => ?_, by unfold icSet; rw [sortI_len]; have := (greedyI_sub n.ends (ordTo l (icRounds l))).length_le; omega⟩, .yes hA⟩
  obtain ⟨u, _, rfl, hu, _⟩ := mem_ordTo.1 (greedyI_mem x hx)
  unfold I64; omega

/-! ### The reference's side -/

theorem viMany_ok {w : World} {s : Sl} {l : List Int} (h : R w s l) (hall : AllIn l 0 40) (hl : 0 < l.length) :
    Calls Try.prog F.s_viMany #[s.v] w (Ret [.at (.int .i64)] fun (r : Int) w' => r = icRounds l ∧ w = w') := by
  refine C_s_viMany ?_
  unfold V_s_viMany
  rw [h.len]
  refine ⟨IN2 l.length fun i m w' => w = w' ∧ (i = 0 → m = 0) ∧ (0 < i → m = mostOf (l.take i) + 1), MN2 l.length, IN2_zero ⟨rfl, fun _ => rfl, fun h => by omega⟩, ?_⟩
  rintro m _ _ ⟨i, rfl, hi, rfl, hm0, hm1⟩
  intros
  refine cond_dec (fun hlt => ?_) (fun hge => ⟨?_, rfl⟩)
  · have hi' : i < l.length := by omega
    refine h.ixI hi' fun q _ hc => LD_int hc ?_
    have hx := hall _ (List.getElem_mem hi')
    rw [wrap_of (n := l[i] + 1) (by omega) (by omega)]
    refine call (l1Most_ok _ _ _) ?_
    rintro _ _ ⟨rfl, rfl⟩
    refine IN2_next h.le hi' ⟨rfl, fun h => by omega, fun _ => ?_⟩
    rw [List.take_succ_eq_append_getElem hi', mostOf_snoc]
    by_cases h0 : i = 0
    · subst h0
      have e0 : mostOf (l.take 0) = 0 := by simp [mostOf]
      rw [hm0 rfl, e0]
      unfold most2
      split <;> split <;> omega
    · rw [hm1 (by omega)]
      unfold most2
      split <;> split <;> omega
  · have : i = l.length := by omega
    subst this
    rw [hm1 hl, List.take_length]
    have := (mostOf_spec l).1
    unfold icRounds; omega

theorem mtColoured_ok {w : World} {a b c s : Sl} {n : Net} {l : List Int} (h : RNet w a b c n) (hl : R w s l) (hg : Good n) :
    Calls Try.prog F.s_mtColoured #[.agg #[a.v, b.v, c.v], s.v] w (Ret [.at .bool] fun (x : Bool) w' => (x = true ↔ IcAsked n l) ∧ Ext w w') := by
  refine C_s_mtColoured ?_
  unfold V_s_mtColoured
  refine NEW_intro fun p w1 hp hs hE hb1 => LD_bs0 hb1 ?_
  replace h := h.ext hE
  replace hl := hl.ext hE
  rw [hl.len, h.1.len]
  have h40 := hg.size.2
  refine cond_ne (fun hne => ⟨?_, hE⟩) (fun heq => ?_)
  · constructor
    · intro hh; cases hh
    · intro hA; have := hA.len; omega
  have hlen : l.length = n.ends.length := by omega
  refine call (l1All_ok hl 0 40) ?_
  rintro y _ ⟨hy, rfl⟩
  refine cond_not (fun hf => ⟨?_, hE⟩) (fun ht => ?_)
  · constructor
    · intro hh; cases hh
    · intro hA; rw [hy.2 hA.all] at hf; cases hf
  have hall := hy.1 ht
  unfold V_s_mtColoured_k1
  refine LD_box3 hb1 ?_
  refine call (neEdges_ok h hg) ?_
  rintro r4 w4 ⟨hE4, hO4⟩
  replace h := h.ext hE4
  replace hl := hl.ext hE4
  replace hE := hE.ext hE4
  have hR4 := hO4.rep (four_ok hg)
  have hlen4 : ((edgesOf n.ends).map four).length = (edgesOf n.ends).length := by simp
  rw [hR4.len, hlen4]
  have hle := hR4.le
  rw [hlen4] at hle
  refine ⟨IN (edgesOf n.ends).length fun i w' => Ext w4 w' ∧ ∀ q ∈ (edgesOf n.ends).take i, (q.1 != q.2.2.1 && colAt l q.1 == colAt l q.2.2.1) = false, MN (edgesOf n.ends).length, IN_zero ⟨Ext.refl _, by simp⟩, ?_⟩
  rintro _ w5 ⟨i, rfl, hi, hE5, hno⟩
  intros
  refine cond_dec (fun hlt => ?_) (fun hge => ?_)
  · have hi' : i < (edgesOf n.ends).length := by omega
    obtain ⟨v, pi, x, y, hq, _, _, hv, hx, _, _⟩ := edge_at hg (List.getElem_mem hi')
    have hv' : v < l.length := by omega
    have hx' : x < l.length := by omega
    refine (hR4.ext hE5).ixL (by rw [hlen4]; exact hi') fun qa r19 hR19 hc => LD_sl hc ?_
    have h4 : ((edgesOf n.ends).map four)[i]'(by rw [hlen4]; exact hi') = [(v : Int), (pi : Int), (x : Int), (y : Int)] := by simp [hq, four]
    rw [h4] at hR19
    have hnext : ∀ w', Ext w5 w' → ((v : Int) != x && colAt l v == colAt l x) = false → IN (edgesOf n.ends).length (fun i w' => Ext w4 w' ∧ ∀ q ∈ (edgesOf n.ends).take i, (q.1 != q.2.2.1 && colAt l q.1 == colAt l q.2.2.1) = false) (IntKind.i64.wrap ((i : Int) + 1)) w' ∧ MN (edgesOf n.ends).length (IntKind.i64.wrap ((i : Int) + 1)) w' < MN (edgesOf n.ends).length i w5 := fun w' hE' hf => by
      refine IN_next hle hi' ⟨hE5.trans hE', fun q hqm => ?_⟩
      rw [List.take_succ_eq_append_getElem hi'] at hqm
      rcases List.mem_append.1 hqm with h1 | h1
      · exact hno q h1
      · rw [List.mem_singleton.1 h1, hq]; exact hf
    refine hR19.any.ixI (i := 0) (by simp) fun q0 _ hc0 => LD_int hc0 ?_
    refine hR19.any.ixI (i := 2) (by simp) fun q0 _ hc0 => LD_int hc0 ?_
    refine cond_ne (fun h1 => ?_) (fun h1 w7 hE7 => hnext w7 hE7 (by have h1' : (v : Int) = (x : Int) := h1; simp only [h1', bne_self_eq_false, Bool.false_and]))
    have h1' : (v : Int) ≠ (x : Int) := h1
    refine hR19.any.ixI (i := 0) (by simp) fun q0 _ hc0 => LD_int hc0 ?_
    refine (hl.ext hE5).ixI hv' fun q0 _ hc0 => LD_int hc0 ?_
    refine hR19.any.ixI (i := 2) (by simp) fun q0 _ hc0 => LD_int hc0 ?_
    refine (hl.ext hE5).ixI hx' fun q0 _ hc0 => LD_int hc0 ?_
    intro w6 hE6
    refine cond_eq (fun h2 => ⟨?_, (hE.trans hE5).trans hE6⟩) (fun h2 => hnext w6 hE6 ?_)
    · constructor
      · intro hh; cases hh
      · intro hA
        have := hA.apart
        rw [List.any_eq_false] at this
        have h3 := this _ (List.getElem_mem hi')
        rw [hq] at h3
        refine absurd ?_ h3
        simp only
        rw [colAt_get hv', colAt_get hx', Bool.and_eq_true, bne_iff_ne, beq_iff_eq]
        exact ⟨h1', h2⟩
    · rw [colAt_get hv', colAt_get hx', Bool.and_eq_false_iff]
      right
      rw [beq_eq_false_iff_ne]; exact h2
  · have : i = (edgesOf n.ends).length := by omega
    subst this
    rw [List.take_length] at hno
    refine ⟨⟨fun _ => ⟨hg, hlen, hall, ?_⟩, fun _ => rfl⟩, hE.trans hE5⟩
    rw [List.any_eq_false]
    intro q hq
    rw [hno q hq]; simp

theorem sIndependentByColours_ok {w : World} {a b c s : Sl} {n : Net} {l : List Int} (h : RNet w a b c n) (hl : R w s l) :
    Calls Try.prog F.s_IndependentByColours #[.agg #[a.v, b.v, c.v], s.v] w (Ret [.at .sl, .at (.int .i64), .at .bool] fun (r : Sl) (x : Int) (y : Bool) w' => Ext w w' ∧ ∃ m, R w' r m ∧ AnsG (IcAsked n l) (icSet n l, (icRounds l : Int)) ([], 0) (m, x) y) := by
  refine C_s_IndependentByColours ?_
  unfold V_s_IndependentByColours
  refine NEW_intro fun p w1 hp hs hE hb1 => LD_box3 hb1 ?_
  replace h := h.ext hE
  replace hl := hl.ext hE
  refine call (neGood_ok h) ?_
  rintro x w2 ⟨hx, hE2⟩
  replace hE := hE.ext hE2
  replace h := h.ext hE2
  replace hl := hl.ext hE2
  replace hb1 := hb1.ext hE2
  refine cond_not (fun hf => ⟨hE, [], (OutL.nil 0 _).rep, .no fun hg => ?_⟩) (fun ht => ?_)
  · rw [hx.2 hg.good] at hf; cases hf
  have hg := hx.1 ht
  have h40 := hg.size.2
  refine LD_box3 hb1 ?_
  refine call (mtColoured_ok h hl hg) ?_
  rintro y w3 ⟨hy, hE3⟩
  replace hE := hE.ext hE3
  replace h := h.ext hE3
  replace hl := hl.ext hE3
  replace hb1 := hb1.ext hE3
  refine cond_not (fun hf => ⟨hE, [], (OutL.nil 0 _).rep, .no fun hA => ?_⟩) (fun ht => ?_)
  · rw [hy.2 hA] at hf; cases hf
  have hA := hy.1 ht
  have hlen := hA.len
  have hr41 := ic_rounds hA.all
  unfold V_s_IndependentByColours_k1
  refine call (viMany_ok hl hA.all (by have := hg.size.1; omega)) ?_
  rintro _ _ ⟨rfl, rfl⟩
  refine ⟨IN2 (icRounds l) fun k set w' => Ext w w' ∧ Ext w3 w' ∧ R w' set (sortI (greedyI n.ends (ordTo l k))), MN2 (icRounds l), IN2_zero ⟨hE, Ext.refl _, by simpa [ordTo, greedyI, sortI] using (OutL.nil 0 _).rep⟩, ?_⟩
  rintro set _ w6 ⟨k, rfl, hk, hE6, hE36, hm6⟩
  intros
  refine cond_dec (fun hlt => ?_) (fun hge => ?_)
  rotate_left
  · have : k = icRounds l := by omega
    subst this
    exact ⟨hE6, _, hm6, .yes hA⟩
  have hk' : k < icRounds l := by omega
  rw [hl.len]
  have hol := ordTo_len l k
  have hkn : k * l.length ≤ 41 * 40 := Nat.mul_le_mul (by omega) (by omega)
  refine ⟨IN2 l.length fun v set w' => Ext w w' ∧ Ext w3 w' ∧ R w' set (sortI (greedyI n.ends (ordTo l k ++ byTo l k v))), MN2 l.length, IN2_zero ⟨hE6, hE36, by simpa [byTo] using hm6⟩, ?_⟩
  rintro set2 _ w7 ⟨v, rfl, hv, hE7, hE37, hm7⟩
  intros
  refine cond_dec (fun hlt2 => ?_) (fun hge2 => ?_)
  rotate_left
  · have : v = l.length := by omega
    subst this
    exact IN2_next (by omega) hk' ⟨hE7, hE37, hm7⟩
  have hv' : v < l.length := by omega
  have hvn : v < n.ends.length := by omega
  have hgv : l.getD v 0 = l[v] := by simp [hv']
  have hbl := byTo_len l k v
  have hbs := byTo_succ l k v
  have hgl := (greedyI_sub n.ends (ordTo l k ++ byTo l k v)).length_le
  rw [List.length_append] at hgl
  have hok : ∀ x ∈ greedyI n.ends (ordTo l k ++ byTo l k v), I64 x := fun x hx => by
    rcases List.mem_append.1 (greedyI_mem x hx) with h1 | h1
    · obtain ⟨u, _, rfl, hu, _⟩ := mem_ordTo.1 h1; unfold I64; omega
    · obtain ⟨u, rfl, hu, _⟩ := mem_byTo.1 h1; unfold I64; omega
  have hnd : (greedyI n.ends (ordTo l k ++ byTo l k v)).Nodup := by
    refine greedyI_nodup (List.nodup_append.2 ⟨ltK_irr (ordTo_pairwise l k), ltK_irr (byTo_pairwise l k v), fun x hx y hy => ?_⟩)
    obtain ⟨u, j, rfl, _, hj, h1⟩ := mem_ordTo.1 hx
    obtain ⟨u', rfl, _, h2⟩ := mem_byTo.1 hy
    intro he
    have : u = u' := by omega
    subst this
    omega
  refine (hl.ext hE37).ixI hv' fun q _ hc => LD_int hc ?_
  have hsame : greedyI n.ends (ordTo l k ++ byTo l k (v + 1)) = greedyI n.ends (ordTo l k ++ byTo l k v) → ∀ w', Ext w7 w' → V_s_IndependentByColours_k7 (IN2 l.length fun v set w' => Ext w w' ∧ Ext w3 w' ∧ R w' set (sortI (greedyI n.ends (ordTo l k ++ byTo l k v)))) (MN2 l.length) set2 (v : Int) w7 set2 w' := fun he w' hE' => by
    unfold V_s_IndependentByColours_k7
    exact IN2_next (by omega) hv' ⟨hE7.trans hE', hE37.trans hE', by rw [he]; exact hm7.ext hE'⟩
  refine cond_eq (fun heq => ?_) (fun hne => hsame ?_ _ (Ext.refl _))
  rotate_left
  · rw [hbs, hgv]
    have : (l[v] == (k : Int)) = false := by simpa using hne
    rw [this]; simp
  have hadd : greedyI n.ends (ordTo l k ++ byTo l k (v + 1)) = joinI n.ends (greedyI n.ends (ordTo l k ++ byTo l k v)) v := by
    rw [hbs, hgv]
    have : (l[v] == (k : Int)) = true := by simpa using heq
    rw [this, if_pos rfl, ← List.append_assoc, greedyI_snoc]
  generalize hG : greedyI n.ends (ordTo l k ++ byTo l k v) = S at *
  have hAA : Apart n.ends (sortI S) v ↔ Apart n.ends S v := by
    unfold Apart
    constructor
    · intro h1 x hx hxs; exact h1 x hx ((sortI_perm S).mem_iff.2 hxs)
    · intro h1 x hx hxs; exact h1 x hx ((sortI_perm S).mem_iff.1 hxs)
  have h7 := h.ext hE37
  refine LD_box3 (hb1.ext hE37) ?_
  refine call (mtOwn_ok h7 hg hvn) ?_
  rintro x w8 ⟨rfl, hE8⟩
  refine cond_not (fun hf => ?_) (fun ht => hsame ?_ _ hE8)
  · refine LD_box3 (hb1.ext (hE37.trans hE8)) ?_
    refine call (mtApart_ok (h7.ext hE8) (hm7.ext hE8) hg hvn) ?_
    rintro y w9 ⟨hy, hE9⟩
    have hE79 := hE8.trans hE9
    refine cond_b (fun ht2 => ?_) (fun hf2 => hsame ?_ _ hE79)
    · refine call (l1Put_ok (hm7.ext hE79) (by rw [sortI_len]; omega) (incr_iff_pairwise.1 (incr_sortI.2 hnd)) (n := (v : Int)) (by unfold I64; omega)) ?_
      rintro r w10 ⟨hE10, m', hm', hsd', hmem', _⟩
      unfold V_s_IndependentByColours_k7
      have hEt := hE79.trans hE10
      refine IN2_next (by omega) hv' ⟨hE7.trans hEt, hE37.trans hEt, ?_⟩
      have hj : joins n.ends S v := ⟨by simpa using hf, by simpa using hAA.1 (hy.1 ht2)⟩
      rw [hadd]
      have hjs : joinI n.ends S v = S ++ [(v : Int)] := by unfold joinI; rw [if_pos hj]
      have hnd2 : (joinI n.ends S v).Nodup := by
        rw [← hadd]
        refine greedyI_nodup (List.nodup_append.2 ⟨ltK_irr (ordTo_pairwise l k), ltK_irr (byTo_pairwise l k (v + 1)), fun x hx y hy => ?_⟩)
        obtain ⟨u, j, rfl, _, hj, h1⟩ := mem_ordTo.1 hx
        obtain ⟨u', rfl, _, h2⟩ := mem_byTo.1 hy
        intro he
        have : u = u' := by omega
        subst this
        omega
      rw [← eq_sortI hsd' hnd2 fun x => by rw [hmem', (sortI_perm S).mem_iff, hjs, List.mem_append, List.mem_singleton]]
      exact hm'
    · rw [hadd, joinI, if_neg (fun hj => by rw [hy.2 (hAA.2 (by simpa using hj.2))] at hf2; cases hf2)]
  · rw [hadd, joinI, if_neg (fun hj => by have := hj.1; simp at this; simp [this] at ht)]

end Go.Proofs.Ytoeaoinedidbiaa
