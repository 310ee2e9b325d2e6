/- Own texts, merged: Reduce, ProbIn, EdgeCol, Fault, MapPure, Stable, Dist, Far, Dom, ConfMapPure, Solution, Map, ConfMap. -/
import Derived.Test.YtlmiookpmneicaaGreatM3
section
/- Degrees, greatest numbers, palettes; GreedyReduce, both sides. -/
namespace Go.Proofs.YtlmiookpmneicaaGreat
open Go.GX Go.RowKit
set_option maxRecDepth 100000

/-! ### The greatest number -/

def most2 (a b : Int) : Int := if a > b then a else b
def mostOf (l : List Int) : Int := l.foldl most2 0

theorem mostOf_snoc (l : List Int) (x : Int) : mostOf (l ++ [x]) = most2 (mostOf l) x := by simp [mostOf]

theorem mostOf_spec (l : List Int) : 0 ≤ mostOf l ∧ (∀ x ∈ l, x ≤ mostOf l) ∧ (mostOf l = 0 ∨ mostOf l ∈ l) := by
  unfold mostOf
  have : ∀ (l : List Int) (m : Int), 0 ≤ m → 0 ≤ l.foldl most2 m ∧ m ≤ l.foldl most2 m ∧ (∀ x ∈ l, x ≤ l.foldl most2 m) ∧ (l.foldl most2 m = m ∨ l.foldl most2 m ∈ l) := by
    intro l
    induction l with
    | nil => intro m hm; simp; exact hm
    | cons y r ih =>
      intro m hm
      have hy : m ≤ most2 m y ∧ y ≤ most2 m y ∧ (most2 m y = m ∨ most2 m y = y) := by
        unfold most2; split <;> omega
      obtain ⟨h1, h2, h3, h4⟩ := ih (most2 m y) (by omega)
      rw [List.foldl_cons]
      refine ⟨h1, by omega, fun x hx => ?_, ?_⟩
      · rcases List.mem_cons.1 hx with rfl | hx
        · omega
        · exact h3 x hx
      · rcases h4 with h4 | h4
        · rcases hy.2.2 with h5 | h5
          · left; rw [h4, h5]
          · right; rw [h4, h5]; simp
        · right; exact List.mem_cons_of_mem _ h4
  obtain ⟨h1, _, h3, h4⟩ := this l 0 (by omega)
  exact ⟨h1, h3, h4⟩

theorem mostOf_le {l : List Int} {c : Int} (hc : 0 ≤ c) (h : ∀ x ∈ l, x ≤ c) : mostOf l ≤ c := by
  rcases (mostOf_spec l).2.2 with h1 | h1
  · omega
  · exact h _ h1

theorem mostOf_I64 {l : List Int} (h : ∀ x ∈ l, I64 x) : I64 (mostOf l) := by
  rcases (mostOf_spec l).2.2 with h1 | h1
  · rw [h1]; exact ⟨by decide, by decide⟩
  · exact h _ h1

theorem l1Most_ok (a b : Int) (w : World) : Calls Tryz.prog F.s_l1Most #[.int .i64 a, .int .i64 b] w (Ret [.at (.int .i64)] fun (r : Int) w' => r = most2 a b ∧ w = w') := by
  refine C_s_l1Most ?_
  unfold V_s_l1Most most2
  exact cond_dec (fun h => ⟨by rw [if_pos h], rfl⟩) (fun h => ⟨by rw [if_neg h], rfl⟩)

/-! ### Degrees -/

def degsOf (E : Ends) : List Int := E.map fun r => (r.length : Int)

theorem neDegrees_ok {w : World} {a b c : Sl} {n : Net} (h : RNet w a b c n) (hg : Good n) :
    Calls Tryz.prog F.s_neDegrees #[.agg #[a.v, b.v, c.v]] w (Ret [.at .sl] fun (r : Sl) w' => Ext w w' ∧ OwnL w' w.heap.size T.t_int r (degsOf n.ends)) := by
  refine C_s_neDegrees ?_
  unfold V_s_neDegrees degsOf
  have h40 := hg.size.2
  refine NEW_intro fun p w1 hp hs hE hb1 => LD_bs0 hb1 ?_
  replace h := h.ext hE
  rw [h.1.len]
  refine ⟨IN2 n.ends.length fun i out w' => Ext w1 w' ∧ OwnL w' w1.heap.size T.t_int out ((n.ends.take i).map fun r => (r.length : Int)), MN2 n.ends.length, IN2_zero ⟨Ext.refl _, by simpa using OwnL.nil _ _ _⟩, ?_⟩
  rintro out _ w2 ⟨i, rfl, hi, hE2, hO⟩
  intros
  refine cond_dec (fun hlt => ?_) (fun hge => ?_)
  · have hi' : i < n.ends.length := by omega
    refine (h.ext hE2).1.ixL hi' fun q s1 hR hc => LD_sl hc ?_
    rw [hR.len]
    have := hg.deg hi'
    refine RUN_lit1 (α := Int) slt_int (n.ends[i].length : Int) rfl (by decide) fun r w3 hE3 hO3 => ?_
    replace hE2 := hE2.ext hE3
    replace hO := hO.ext hE3
    refine RUN_append (α := Int) slt_int hO hE2.size_le (hO3.rep (by intro z hz; simp at hz; subst hz; show I64 _; unfold I64; omega)).any (by simp; omega) (by simp [maxLen]; omega) fun r' w4 hO4 hs4 => ?_
    refine IN2_next (by omega) hi' ⟨hs4.ext0 hE2 (fun k hk => (hO.blk k hk).1), ?_⟩
    rw [map_take_succ hi']
    exact hO4
  · have : i = n.ends.length := by omega
    subst this
    exact ⟨hE.trans hE2, (by simpa using hO : OwnL w2 w1.heap.size T.t_int out (n.ends.map fun r => (r.length : Int))).low hE.size_le⟩

theorem degs_mem {E : Ends} {x : Int} (h : x ∈ degsOf E) : ∃ v, ∃ hv : v < E.length, x = E[v].length := by
  obtain ⟨r, hr, rfl⟩ := List.mem_map.1 h
  obtain ⟨v, hv, rfl⟩ := List.mem_iff_getElem.1 hr
  exact ⟨v, hv, rfl⟩

theorem degs_I64 {n : Net} (hg : Good n) : ∀ x ∈ degsOf n.ends, I64 x := fun x hx => by
  obtain ⟨v, hv, rfl⟩ := degs_mem hx
  have := hg.deg hv
  unfold I64; omega

/-! ### What is asked -/

structure PalAsked (n : Net) (l : List Int) (k a : Int) : Prop where
  good : Good n
  pal : 1 ≤ k ∧ k ≤ 1000000000000
  bound : 0 ≤ a ∧ a ≤ 6
  proper : Proper n l
  all : AllIn l 0 (k - 1)
  degs : mostOf (degsOf n.ends) ≤ a

theorem PalAsked.deg {n : Net} {l : List Int} {k a : Int} (h : PalAsked n l k a) {v : Nat} (hv : v < n.ends.length) : (n.ends[v].length : Int) ≤ a := by
  have := (mostOf_spec (degsOf n.ends)).2.1 (n.ends[v].length : Int) (List.mem_map.2 ⟨_, List.getElem_mem hv, rfl⟩)
  have := h.degs
  omega

/-! ### Dropping the greatest colours -/

/-- What a list of colours must be for the rounds. -/
structure ColsOk (n : Net) (a : Int) (l : List Int) : Prop where
  good : Good n
  len : l.length = n.ends.length
  nn : ∀ x ∈ l, 0 ≤ x
  i64 : ∀ x ∈ l, I64 x
  deg : ∀ v, (hv : v < n.ends.length) → (n.ends[v].length : Int) ≤ a

theorem dropOf_mem {n : Net} {a : Int} {l : List Int} (h : ColsOk n a l) {c : Int} : ∀ x ∈ dropOf n.ends l c, (0 ≤ x ∧ x ≤ a) ∨ (x ∈ l ∧ x ≠ c) := fun x hx => by
  obtain ⟨v, hv, rfl⟩ := List.mem_map.1 hx
  have hv' : v < l.length := by simpa using hv
  have hve : v < n.ends.length := by rw [← h.len]; exact hv'
  unfold dropAt
  split
  · left
    have h1 := mex_le (nearOf n.ends l v)
    have h2 : (nearOf n.ends l v).length = n.ends[v].length := by rw [near_adj, List.length_map, adj_len h.good hve]
    have := h.deg v hve
    omega
  · rename_i hne
    right
    simp [hv'] at hne ⊢
    exact hne

theorem ColsOk.drop {n : Net} {a : Int} {l : List Int} (h : ColsOk n a l) (c : Int) : ColsOk n a (dropOf n.ends l c) :=
  ⟨h.good, by rw [dropOf_len]; exact h.len, fun x hx => by
    rcases dropOf_mem h x hx with h1 | h1
    · exact h1.1
    · exact h.nn x h1.1, dropOf_I64 h.good h.i64 h.len c, h.deg⟩

theorem drop_lt {n : Net} {a : Int} {l : List Int} (h : ColsOk n a l) (ha : 0 ≤ a) (hm : mostOf l > a) : mostOf (dropOf n.ends l (mostOf l)) < mostOf l := by
  have : mostOf (dropOf n.ends l (mostOf l)) ≤ mostOf l - 1 := by
    refine mostOf_le (by omega) fun x hx => ?_
    rcases dropOf_mem h x hx with h1 | h1
    · omega
    · have := (mostOf_spec l).2.1 x h1.1
      have := h1.2
      omega
  omega

def redRun (E : Ends) (a : Int) : Nat → List Int → List Int
  | 0, l => l
  | f + 1, l => if mostOf l > a then redRun E a f (dropOf E l (mostOf l)) else l

def redOf (E : Ends) (a : Int) (l : List Int) : List Int := redRun E a ((mostOf l).toNat + 1) l

theorem redRun_done {E : Ends} {a : Int} {f : Nat} {l : List Int} (h : ¬ mostOf l > a) : redRun E a f l = l := by
  cases f with
  | zero => rfl
  | succ f => unfold redRun; rw [if_neg h]

theorem PalAsked.cols {n : Net} {l : List Int} {k a : Int} (h : PalAsked n l k a) (hi : ∀ x ∈ l, I64 x) : ColsOk n a l :=
  ⟨h.good, h.proper.1, fun x hx => (h.all x hx).1, hi, fun v hv => h.deg hv⟩

end Go.Proofs.YtlmiookpmneicaaGreat
end

section
/- Problems as arguments: read, counted, copied, held against each other, marked. -/
namespace Go.Proofs.YtlmiookpmneicaaGreat
open Go.GX Go.RowKit
set_option maxRecDepth 100000

structure Prob where
  labels : Int
  degree : Int
  nodes : List (List Int)
  edges : List (List Int)

/-- The slices of a problem read as its configurations. -/
structure RProb (w : World) (c d : Sl) (p : Prob) : Prop where
  labels : I64 p.labels
  degree : I64 p.degree
  nodes : R w c p.nodes
  edges : R w d p.edges

theorem RProb.ext {w w' : World} {c d : Sl} {p : Prob} (h : RProb w c d p) (hE : Ext w w') : RProb w' c d p := ⟨h.labels, h.degree, h.nodes.ext hE, h.edges.ext hE⟩

def SmallP (p : Prob) : Prop := SmallM p.nodes ∧ SmallM p.edges

theorem LD_iiss {w : World} {p : Addr} {t : TypeId} {x y : Int} {z u : Sl} {r : List Value} {K : Int → Int → Sl → Sl → Prop} (hb : Box w p t (.int .i64 x :: .int .i64 y :: z.v :: u.v :: r)) (hk : K x y z u) : LD [.int .i64, .int .i64, .sl, .sl] p w K := by
  refine ⟨[.int .i64 x, .int .i64 y, z.v, u.v], rfl, fun i v hv => ?_, hk⟩
  match i, hv with
  | 0, hv => exact hb.cell (i := 0) hv
  | 1, hv => exact hb.cell (i := 1) hv
  | 2, hv => exact hb.cell (i := 2) hv
  | 3, hv => exact hb.cell (i := 3) hv
  | i + 4, hv => simp at hv
theorem LD_bs3 {w : World} {p : Addr} {t : TypeId} {x : Sl} {v0 v1 v2 : Value} {r : List Value} {K : Sl → Prop} (hb : Box w p t (v0 :: v1 :: v2 :: x.v :: r)) (hk : K x) : LD [.sl] (p.add 3) w K := LD_sl (hb.cell (i := 3) rfl) hk
theorem one4p (x y : Int) (z u : Sl) : ∀ v ∈ [Value.int .i64 x, .int .i64 y, z.v, u.v], v.oneCell' = true := by intro v hv; simp at hv; rcases hv with rfl | rfl | rfl | rfl <;> rfl

theorem szProblem_ok {w : World} {c d : Sl} {p : Prob} (h : RProb w c d p) (left : Int) (h0 : 0 ≤ left) (h1 : left ≤ 1048576) :
    Calls Tryz.prog F.l_szProblem #[.agg #[.int .i64 p.labels, .int .i64 p.degree, c.v, d.v], .int .i64 left] w (Ret [.at (.int .i64)] fun (x : Int) w' => (0 ≤ x → SmallP p ∧ x ≤ left) ∧ Ext w w') := by
  refine C_l_szProblem ?_
  unfold V_l_szProblem
  refine NEW_intro fun pa w1 hp hs hE hb => LD_bs2 hb ?_
  replace h := h.ext hE
  refine call (szIntSS_ok h.nodes left h0 h1) ?_
  rintro x _ ⟨hx, rfl⟩
  refine cond_dec (fun hn => ⟨fun h => by omega, hE⟩) (fun hnn => LD_bs3 hb ?_)
  obtain ⟨a1, a2, a3⟩ := hx (by omega)
  refine call (szIntSS_ok h.edges x (by omega) (by omega)) ?_
  rintro y _ ⟨hy, rfl⟩
  refine cond_dec (fun hn => ⟨fun h => by omega, hE⟩) (fun hnn2 => ⟨fun _ => ?_, hE⟩)
  obtain ⟨b1, b2, b3⟩ := hy (by omega)
  exact ⟨⟨⟨by omega, fun r hr => by have := a3 r hr; omega⟩, ⟨by omega, fun r hr => by have := b3 r hr; omega⟩⟩, by omega⟩

/-- Networks counted, with what is left. -/
theorem szNetwork_at {w : World} {a b c : Sl} {n : Net} (h : RNet w a b c n) (left : Int) (hl0 : 0 ≤ left) (hl1 : left ≤ 1048576) :
    Calls Tryz.prog F.l_szNetwork #[.agg #[a.v, b.v, c.v], .int .i64 left] w (Ret [.at (.int .i64)] fun (x : Int) w' => (0 ≤ x → Small n ∧ x ≤ left) ∧ Ext w w') := by
  refine C_l_szNetwork ?_
  unfold V_l_szNetwork
  refine NEW_intro fun pa w1 hp1 hs1 hE1 hb1 => ?_
  refine LD_bs0 hb1 ?_
  refine call (szEndSS_ok (h.1.ext hE1) _ (by omega) (by omega)) ?_
  rintro x1 _ ⟨h1, rfl⟩
  refine cond_dec (fun _ => ⟨by omega, hE1⟩) (fun hn1 => ?_)
  have k1 := h1 (by omega)
  refine LD_bs1 hb1 ?_
  refine call (szIntS_ok (h.2.1.ext hE1) _ (by omega) (by omega)) ?_
  rintro x2 _ ⟨h2, rfl⟩
  refine cond_dec (fun _ => ⟨by omega, hE1⟩) (fun hn2 => ?_)
  have k2 := h2 (by omega)
  refine LD_bs2 hb1 ?_
  refine call (szIntS_ok (h.2.2.ext hE1) _ (by omega) (by omega)) ?_
  rintro x3 _ ⟨h3, rfl⟩
  refine cond_dec (fun _ => ⟨by omega, hE1⟩) (fun hn3 => ?_)
  have k3 := h3 (by omega)
  exact ⟨fun _ => ⟨⟨by omega, fun r hr => by have := k1.2.2 r hr; omega, by omega, by omega⟩, by omega⟩, hE1⟩

/-- A problem of the call's own: its lists of configurations lie apart. -/
structure OwnProb (w : World) (lo mid hi : Nat) (z u : Sl) (p : Prob) : Prop where
  nodes : Own2 w lo T.t_int T.t_sl_int z p.nodes
  edges : Own2 w mid T.t_int T.t_sl_int u p.edges
  mnodes : MIntSS w z lo mid
  medges : MIntSS w u mid hi
  lom : lo ≤ mid
  mhi : mid ≤ hi
  top : hi ≤ w.heap.size

theorem OwnProb.ext {w w' : World} {lo mid hi : Nat} {z u : Sl} {p : Prob} (h : OwnProb w lo mid hi z u p) (hE : Ext w w') : OwnProb w' lo mid hi z u p :=
  ⟨h.nodes.ext hE, h.edges.ext hE, h.mnodes.ext hE, h.medges.ext hE, h.lom, h.mhi, Nat.le_trans h.top hE.size_le⟩
theorem OwnProb.prob {w w0 : World} {lo mid hi : Nat} {c d z u : Sl} {p : Prob} (h : OwnProb w lo mid hi z u p) (h0 : RProb w0 c d p) : RProb w z u p :=
  ⟨h0.labels, h0.degree, h.nodes.rep (flat_okII h0.nodes), h.edges.rep (flat_okII h0.edges)⟩

theorem mintss_at {w w' : World} {base : Nat} {s : Sl} {L : List (List Int)} (h : Own2 w base T.t_int T.t_sl_int s L) (hl : L.length ≤ 1048576) (hll : ∀ r ∈ L, r.length ≤ 1048576) (hk : ∀ k, base ≤ k → k < w.heap.size → w'.heap[k]? = w.heap[k]?) {lo : Nat} (hlo : lo ≤ base) : MIntSS w' s lo w.heap.size := by
  obtain ⟨ss, h1, h2, h3⟩ := h
  refine ⟨ss, (h1.keep fun k hb => hk k (h1.blk k hb).1 (h1.blk k hb).2).low hlo, by omega, fun r hr => ?_⟩
  obtain ⟨i, hi, rfl⟩ := List.mem_iff_getElem.1 hr
  have hiL : i < L.length := by omega
  have hO := h3 i ss[i] L[i] (by simp [hi]) (by simp [hiL])
  have hO' : OwnL w' base T.t_int ss[i] L[i] := hO.keep fun k hb => hk k (hO.blk k hb).1 (hO.blk k hb).2
  refine ⟨⟨hO'.wr, by rw [hO.1]; exact hll _ (List.getElem_mem hiL), fun b hb => ?_⟩, fun b hb he => ?_⟩
  · have := hO.blk b (blkOf_own hO hb)
    omega
  · obtain ⟨c1, e1⟩ := hO.type (blkOf_own hO hb)
    obtain ⟨c2, e2⟩ := h1.type he
    rw [e1] at e2
    exact absurd (Obj.cells.inj (Option.some.inj e2)).2.1 (by decide)

theorem toProblem_own {w : World} {c d : Sl} {p : Prob} (h : RProb w c d p) (hs : SmallP p) :
    Calls Tryz.prog F.l_toProblem #[.agg #[.int .i64 p.labels, .int .i64 p.degree, c.v, d.v]] w (Ret [.agg [.int .i64, .int .i64, .sl, .sl]] fun (x y : Int) (z u : Sl) w' => x = p.labels ∧ y = p.degree ∧ Ext w w' ∧ ∃ mid hi, OwnProb w' w.heap.size mid hi z u p) := by
  refine C_l_toProblem ?_
  unfold V_l_toProblem
  refine NEW_intro fun pa w1 hp1 hs1 hE1 hb1 => ?_
  refine NEW_intro fun px w2 hp2 hs2 hE2 hb2 => ?_
  refine NEW_intro fun po w3 hp3 hs3 hE3 hb3 => ?_
  have ha3 := (hb1.ext hE2).ext hE3
  have hx3 := hb2.ext hE3
  have hE : Ext w w3 := (hE1.trans hE2).trans hE3
  have hlt := hb3.lt
  refine LD_bi0 ha3 ?_
  refine ST_box1 hb3 (by simp) rfl fun w4 hz4 hk4 hX4 hb4 => ?_
  have hE4 := hX4 _ hE (by omega)
  have ha4 := ha3.of_block (hk4 _ (by omega))
  have hx4 := hx3.of_block (hk4 _ (by omega))
  refine LD_bi1 ha4 ?_
  refine ST_box1 hb4 (by simp) rfl fun w5 hz5 hk5 hX5 hb5 => ?_
  have hE5 := hX5 _ hE4 (by omega)
  have ha5 := ha4.of_block (hk5 _ (by omega))
  have hx5 := hx4.of_block (hk5 _ (by omega))
  refine LD_bs2 ha5 ?_
  refine call (toIntSS_own (h.nodes.ext hE5) hs.1.1 hs.1.2) ?_
  rintro z w6 ⟨hE6, hz⟩
  have hlt5 := hb5.lt
  refine ST_box1 (hb5.ext hE6) (by simp) rfl fun w7 hz7 hk7 hX7 hb7 => ?_
  have hE7 := hX7 _ (hE5.trans hE6) (by omega)
  have ha7 := (ha5.ext hE6).of_block (hk7 _ (by omega))
  have hx7 := (hx5.ext hE6).of_block (hk7 _ (by omega))
  have hz' : Own2 w7 w5.heap.size T.t_int T.t_sl_int z p.nodes := hz.keep fun b hb _ => hk7 b (by omega)
  refine LD_bs3 ha7 ?_
  refine call (toIntSS_own (h.edges.ext hE7) hs.2.1 hs.2.2) ?_
  rintro u w8 ⟨hE8, hu⟩
  have hlt7 := hb7.lt
  have hsz6 := hE6.size_le
  have hsz8 := hE8.size_le
  refine ST_box1 (hb7.ext hE8) (by simp) rfl fun w9 hz9 hk9 hX9 hb9 => ?_
  have hE9 := hX9 _ (hE7.trans hE8) (by omega)
  have hx9 := (hx7.ext hE8).of_block (hk9 _ (by omega))
  have hz9' : Own2 w9 w5.heap.size T.t_int T.t_sl_int z p.nodes := (hz'.ext hE8).keep fun b hb _ => hk9 b (by omega)
  have hu9 : Own2 w9 w7.heap.size T.t_int T.t_sl_int u p.edges := hu.keep fun b hb _ => hk9 b (by omega)
  refine LD_iiss hb9 ?_
  refine ST_all hx9 (one4p _ _ _ _) rfl fun w10 hs10 hz10 hb10 => ?_
  have hsz5 : w.heap.size ≤ w5.heap.size := by have := hE.size_le; omega
  have hpx : px.block < w3.heap.size := hx3.lt
  have hz10' : Own2 w10 w5.heap.size T.t_int T.t_sl_int z p.nodes := hz9'.keep fun b hb h2 => hs10.block b h2 (by intro he; cases he; omega)
  have hu10 : Own2 w10 w7.heap.size T.t_int T.t_sl_int u p.edges := hu9.keep fun b hb h2 => hs10.block b h2 (by intro he; cases he; omega)
  have hmzl : MIntSS w10 z w.heap.size w7.heap.size := mintss_at hz' hs.1.1 hs.1.2 (fun k hk1 hk2 => by
    rw [hs10.block k (by omega) (by intro he; cases he; omega), hk9 k (by omega), hE8.block k hk2]) hsz5
  exact LD_iiss hb10 ⟨rfl, rfl, hs10.ext0 hE9 (fun k hk => by cases hk; omega), w7.heap.size, w10.heap.size, hz10'.low hsz5, hu10, hmzl, mintss_of hu10 hs.2.1 hs.2.2, by omega, by omega, Nat.le_refl _⟩

theorem toProblem_ok {w : World} {c d : Sl} {p : Prob} (h : RProb w c d p) (hs : SmallP p) :
    Calls Tryz.prog F.l_toProblem #[.agg #[.int .i64 p.labels, .int .i64 p.degree, c.v, d.v]] w (Ret [.agg [.int .i64, .int .i64, .sl, .sl]] fun (x y : Int) (z u : Sl) w' => x = p.labels ∧ y = p.degree ∧ Ext w w' ∧ RProb w' z u p) :=
  call (toProblem_own h hs) fun _ _ _ _ _ ⟨h1, h2, h3, _, _, h4⟩ => ⟨h1, h2, h3, h4.prob h⟩

theorem eqProblem_ok {w : World} {c d x y : Sl} {p : Prob} (h : RProb w c d p) (h' : RProb w x y p) :
    Calls Tryz.prog F.l_eqProblem #[.agg #[.int .i64 p.labels, .int .i64 p.degree, c.v, d.v], .agg #[.int .i64 p.labels, .int .i64 p.degree, x.v, y.v]] w (Ret [.at .bool] fun (r : Bool) w' => r = true ∧ Ext w w') := by
  refine C_l_eqProblem ?_
  unfold V_l_eqProblem
  refine NEW_intro fun pa w1 hp1 hs1 hE1 hb1 => ?_
  refine NEW_intro fun pb w2 hp2 hs2 hE2 hb2 => ?_
  have ha := hb1.ext hE2
  have hE := hE1.trans hE2
  refine LD_bi0 ha (LD_bi0 hb2 (cond_ne (fun h => absurd rfl h) (fun _ => LD_bi1 ha (LD_bi1 hb2 (cond_ne (fun h => absurd rfl h) (fun _ => LD_bs2 ha (LD_bs2 hb2 ?_)))))))
  refine call (eqIntSS_ok (h.nodes.ext hE) (h'.nodes.ext hE)) ?_
  rintro _ w3 ⟨rfl, hE3⟩
  refine cond_f (by simp) (LD_bs3 (ha.ext hE3) (LD_bs3 (hb2.ext hE3) ?_))
  refine call (eqIntSS_ok (h.edges.ext (hE.trans hE3)) (h'.edges.ext (hE.trans hE3))) ?_
  rintro _ w4 ⟨rfl, hE4⟩
  exact cond_f (by simp) ⟨rfl, (hE.trans hE3).trans hE4⟩

theorem markProblem_ok {w : World} {lo mid hi : Nat} {z u : Sl} {x y : Int} (h1 : MIntSS w z lo mid) (h2 : MIntSS w u mid hi) (hlm : lo ≤ mid) (hmh : mid ≤ hi) (ht : hi ≤ w.heap.size) (k : Int) (hk0 : 0 ≤ k) (hk : k ≤ 112589990684262400) :
    Calls Tryz.prog F.l_markProblem #[.agg #[.int .i64 x, .int .i64 y, z.v, u.v], .int .i64 k] w (Ret [.at (.int .i64)] fun (r : Int) w' => 0 ≤ r ∧ r ≤ k + 2199023255552 ∧ Shp w w' ∧ Chg w w' (fun b => lo ≤ b ∧ b < hi)) := by
  refine C_l_markProblem ?_
  unfold V_l_markProblem
  refine NEW_intro fun p w1 hp hs hE hb => LD_bs2 hb ?_
  refine call (markIntSS_ok (h1.ext hE) k hk0 (by omega)) ?_
  rintro r1 w2 ⟨ha, hb2, hS, hC⟩
  have hbx := hb.chg hC (by rw [hp]; intro hh; omega)
  refine LD_bs3 hbx ?_
  refine call (markIntSS_ok ((h2.ext hE).chg hS hC (Nat.le_refl _)) r1 ha (by omega)) ?_
  rintro r2 w3 ⟨hc, hc2, hS2, hC2⟩
  exact ⟨hc, by omega, (Shp.ext hE).trans (hS.trans hS2), (Chg.of_ext hE).trans ((hC.mono fun b hb => ⟨hb.1, by omega⟩).trans (hC2.mono fun b hb => ⟨by omega, hb.2⟩))⟩

variable {H : Type} {enc : TypeId × Value → H} {w : World} {base b0 : Nat} {spare : Nat → Bool} {held : Bool} {r : Reach} {v : Value} {d : DataW H} {p : List MemPlace}

theorem open_P (hv : Value.okWide Tryz.prog w r b0 T.t_l_Problem v) (h : DataW.Trod enc Tryz.prog w base spare held T.t_l_Problem v d p) : ∃ (c e : Sl) (q : Prob), v = .agg #[.int .i64 q.labels, .int .i64 q.degree, c.v, e.v] ∧ RProb w c e q := by
  obtain ⟨a, b, c, e, y, z, rfl, h0, h1, h2, h3⟩ := open_problem (u0 := T.t_int) (u1 := T.t_int) (u2 := T.t_sl_sl_int) (u3 := T.t_sl_sl_int) (by kernel_rfl) reads_int reads_int reads_intss reads_intss hv h
  exact ⟨c, e, ⟨a, b, y, z⟩, rfl, h0, h1, h2, h3⟩

/-! ### What is asked of a problem -/

structure PGood (p : Prob) : Prop where
  lab : 1 ≤ p.labels ∧ p.labels ≤ 8
  deg : 1 ≤ p.degree ∧ p.degree ≤ 4
  nodes : ConfOk p.nodes p.degree p.labels
  edges : ConfOk p.edges 2 p.labels

theorem IsProblem_ok {w : World} {c d : Sl} {p : Prob} (h : RProb w c d p) :
    Calls Tryz.prog F.i_IsProblem #[.agg #[.int .i64 p.labels, .int .i64 p.degree, c.v, d.v]] w (Ret [.at .bool] fun (x : Bool) w' => (x = true ↔ PGood p) ∧ Ext w w') := by
  refine C_i_IsProblem ?_
  unfold V_i_IsProblem
  refine NEW_intro fun pa w1 hp hs hE hb => LD_bi0 hb ?_
  replace h := h.ext hE
  have hno : ∀ {w' : World}, Ext w w' → ¬ PGood p → (false = true ↔ PGood p) ∧ Ext w w' := fun h1 h2 => ⟨by simp [h2], h1⟩
  refine call (within_ok _ _ _ _) ?_
  rintro _ _ ⟨rfl, rfl⟩
  refine cond_b (fun ht => LD_bi1 hb ?_) (fun hf => hno hE fun hg => inR_false hf hg.lab)
  have hlab := inR_true ht
  refine call (within_ok _ _ _ _) ?_
  rintro _ _ ⟨rfl, rfl⟩
  refine cond_b (fun ht2 => LD_bs2 hb (LD_bi1 hb (LD_bi0 hb ?_))) (fun hf => hno hE fun hg => inR_false hf hg.deg)
  have hdeg := inR_true ht2
  refine call (configurationsOk_ok h.nodes hlab) ?_
  rintro y w4 ⟨hy, hE4⟩
  replace hE := hE.ext hE4
  replace h := h.ext hE4
  replace hb := hb.ext hE4
  refine cond_b (fun ht3 => LD_bs3 hb (LD_bi0 hb ?_)) (fun hf => hno hE fun hg => by rw [hy.2 hg.nodes] at hf; cases hf)
  refine call (configurationsOk_ok h.edges hlab) ?_
  rintro z w5 ⟨hz, hE5⟩
  exact ⟨⟨fun ht4 => ⟨hlab, hdeg, hy.1 ht3, hz.1 ht4⟩, fun hg => hz.2 hg.edges⟩, hE.trans hE5⟩


theorem prGood_ok {w : World} {c d : Sl} {p : Prob} (h : RProb w c d p) :
    Calls Tryz.prog F.s_prGood #[.agg #[.int .i64 p.labels, .int .i64 p.degree, c.v, d.v]] w (Ret [.at .bool] fun (x : Bool) w' => (x = true ↔ PGood p) ∧ Ext w w') := by
  refine C_s_prGood ?_
  unfold V_s_prGood
  refine NEW_intro fun pa w1 hp hs hE hb => LD_bi0 hb ?_
  replace h := h.ext hE
  have hno : ∀ {w' : World}, Ext w w' → ¬ PGood p → (false = true ↔ PGood p) ∧ Ext w w' := fun h1 h2 => ⟨by simp [h2], h1⟩
  refine call (l1In_ok _ _ _ _) ?_
  rintro _ _ ⟨rfl, rfl⟩
  refine cond_b (fun ht => LD_bi1 hb ?_) (fun hf => hno hE fun hg => inR_false hf hg.lab)
  have hlab := inR_true ht
  refine call (l1In_ok _ _ _ _) ?_
  rintro _ _ ⟨rfl, rfl⟩
  refine cond_b (fun ht2 => LD_bs2 hb (LD_bi1 hb (LD_bi0 hb ?_))) (fun hf => hno hE fun hg => inR_false hf hg.deg)
  have hdeg := inR_true ht2
  refine call (prLists_ok h.nodes hlab) ?_
  rintro y w4 ⟨hy, hE4⟩
  replace hE := hE.ext hE4
  replace h := h.ext hE4
  replace hb := hb.ext hE4
  refine cond_b (fun ht3 => LD_bs3 hb (LD_bi0 hb ?_)) (fun hf => hno hE fun hg => by rw [hy.2 hg.nodes] at hf; cases hf)
  refine call (prLists_ok h.edges hlab) ?_
  rintro z w5 ⟨hz, hE5⟩
  exact ⟨⟨fun ht4 => ⟨hlab, hdeg, hy.1 ht3, hz.1 ht4⟩, fun hg => hz.2 hg.edges⟩, hE.trans hE5⟩


/-! ### Configurations that are allowed -/

def NodeOk (p : Prob) (l : List Int) : Prop := sortI l ∈ p.nodes
def EdgeIs (p : Prob) (a b : Int) : Prop := sortI [a, b] ∈ p.edges

theorem sort2 (a b : Int) : sortI [a, b] = if a ≤ b then [a, b] else [b, a] := by
  have hp := sortI_perm [a, b]
  have hs := sortI_sorted [a, b]
  refine (hp.trans ?_).eq_of_pairwise (fun a b _ _ h1 h2 => Int.le_antisymm h1 h2) hs ?_
  · split
    · exact List.Perm.refl _
    · exact List.Perm.swap _ _ _
  · split
    · simp; omega
    · simp; omega

theorem node_ok {w : World} {c d t : Sl} {p : Prob} {l : List Int} (h : RProb w c d p) (hs : SmallP p) (hg : PGood p) (hl : R w t l) (hll : l.length ≤ 1048576) :
    Calls Tryz.prog F.i_Problem_node #[.agg #[.int .i64 p.labels, .int .i64 p.degree, c.v, d.v], t.v] w (Ret [.at .bool] fun (x : Bool) w' => (x = true ↔ NodeOk p l) ∧ Ext w w') := by
  refine C_i_Problem_node ?_
  unfold V_i_Problem_node
  refine NEW_intro fun pa w1 hp hs1 hE hb => LD_bs2 hb ?_
  replace h := h.ext hE
  replace hl := hl.ext hE
  refine call (hasConfiguration_ok h.nodes hl hg.nodes.lt hs.1.1 hll) ?_
  rintro x w2 ⟨rfl, hE2⟩
  exact ⟨by simp [NodeOk], hE.trans hE2⟩

theorem edge_ok {w : World} {c d : Sl} {p : Prob} {a b : Int} (h : RProb w c d p) (hs : SmallP p) (hg : PGood p) (ha : I64 a) (hb0 : I64 b) :
    Calls Tryz.prog F.i_Problem_edge #[.agg #[.int .i64 p.labels, .int .i64 p.degree, c.v, d.v], .int .i64 a, .int .i64 b] w (Ret [.at .bool] fun (x : Bool) w' => (x = true ↔ EdgeIs p a b) ∧ Ext w w') := by
  refine C_i_Problem_edge ?_
  unfold V_i_Problem_edge
  refine NEW_intro fun pa w1 hp hs1 hE hb => LD_bs3 hb ?_
  replace h := h.ext hE
  refine RUN_lits slt_int [a, b] (by simp) (by simp) rfl rfl fun r w2 hE2 hO2 => ?_
  have hE12 := hE.trans hE2
  refine call (hasConfiguration_ok (h.edges.ext hE2) (hO2.rep (by intro x hx; simp at hx; rcases hx with rfl | rfl <;> assumption)).any hg.edges.lt hs.2.1 (by simp)) ?_
  rintro x w3 ⟨rfl, hE3⟩
  exact ⟨by simp [EdgeIs], hE12.trans hE3⟩

theorem prNode_ok {w : World} {c d t : Sl} {p : Prob} {l : List Int} (h : RProb w c d p) (hl : R w t l) (hll : l.length ≤ 1048576) :
    Calls Tryz.prog F.s_prNode #[.agg #[.int .i64 p.labels, .int .i64 p.degree, c.v, d.v], t.v] w (Ret [.at .bool] fun (x : Bool) w' => (x = true ↔ NodeOk p l) ∧ Ext w w') := by
  refine C_s_prNode ?_
  unfold V_s_prNode
  refine NEW_intro fun pa w1 hp hs1 hE hb => ?_
  intro w2 hE2 _
  have hE12 := hE.trans hE2
  refine LD_bs2 (hb.ext hE2) ⟨Ext.refl _, ?_⟩
  refine call (prSorted_ok (hl.ext hE12) hll) ?_
  rintro r w3 ⟨hE3, hO3⟩
  refine ⟨hE3, ?_⟩
  refine call (prHas_ok (h.nodes.ext (hE12.trans hE3)) (hO3.rep (sortI_I64 (flat_ok hl))).any) ?_
  rintro x w4 ⟨rfl, hE4⟩
  exact ⟨hE3.trans hE4, by simp [NodeOk], hE12.trans (hE3.trans hE4)⟩

theorem l1Least_ok (a b : Int) (w : World) : Calls Tryz.prog F.s_l1Least #[.int .i64 a, .int .i64 b] w (Ret [.at (.int .i64)] fun (r : Int) w' => r = (if a < b then a else b) ∧ w = w') := by
  refine C_s_l1Least ?_
  unfold V_s_l1Least
  exact cond_dec (fun h => ⟨by rw [if_pos h], rfl⟩) (fun h => ⟨by rw [if_neg h], rfl⟩)

theorem most2b (a b : Int) : sortI [a, b] = [if a < b then a else b, most2 a b] := by
  rw [sort2]
  unfold most2
  by_cases h1 : a < b
  · rw [if_pos (by omega), if_pos h1, if_neg (by omega)]
  · by_cases h2 : a = b
    · subst h2; simp
    · rw [if_neg (by omega), if_neg h1, if_pos (by omega)]

theorem prEdge_ok {w : World} {c d : Sl} {p : Prob} {a b : Int} (h : RProb w c d p) (ha : I64 a) (hb0 : I64 b) :
    Calls Tryz.prog F.s_prEdge #[.agg #[.int .i64 p.labels, .int .i64 p.degree, c.v, d.v], .int .i64 a, .int .i64 b] w (Ret [.at .bool] fun (x : Bool) w' => (x = true ↔ EdgeIs p a b) ∧ Ext w w') := by
  refine C_s_prEdge ?_
  unfold V_s_prEdge
  refine NEW_intro fun pa w1 hp hs1 hE hb => ?_
  intro w2 hE2 _
  have hE12 := hE.trans hE2
  refine LD_bs3 (hb.ext hE2) ?_
  refine call (l1Least_ok _ _ _) ?_
  rintro _ _ ⟨rfl, rfl⟩
  refine ⟨Ext.refl _, call (l1Most_ok _ _ _) ?_⟩
  rintro _ _ ⟨rfl, rfl⟩
  refine ⟨Ext.refl _, ?_⟩
  have hs2 := most2b a b
  refine RUN_lits slt_int [if a < b then a else b, most2 a b] (by simp) (by simp) rfl rfl fun r w5 hE5 hO5 => ⟨hE5, ?_⟩
  rw [← hs2] at hO5
  have hok : ∀ x ∈ sortI [a, b], I64 x := sortI_I64 (by intro x hx; simp at hx; rcases hx with rfl | rfl <;> assumption)
  refine call (prHas_ok (h.edges.ext (hE12.trans hE5)) (hO5.rep hok).any) ?_
  rintro x w6 ⟨rfl, hE6⟩
  exact ⟨hE5.trans hE6, by simp [EdgeIs], hE12.trans (hE5.trans hE6)⟩

end Go.Proofs.YtlmiookpmneicaaGreat
end

section
/- Colourings of edges, on both sides. -/
namespace Go.Proofs.YtlmiookpmneicaaGreat
open Go.GX Go.RowKit
set_option maxRecDepth 100000

def at2 (l : List (List Int)) (v i : Nat) : Int := (l.getD v []).getD i 0

/-- As many rows as nodes, each as long as the node has ports. -/
def SameRows (E : List (List (Int × Int))) (l : List (List Int)) : Prop := l.length = E.length ∧ ∀ v < l.length, (l.getD v []).length = (E.getD v []).length

def EdgeAt (E : List (List (Int × Int))) (l : List (List Int)) (v i : Nat) : Prop :=
  at2 l ((E.getD v []).getD i (0, 0)).1.toNat ((E.getD v []).getD i (0, 0)).2.toNat = at2 l v i

structure EdgeOk (E : List (List (Int × Int))) (l : List (List Int)) : Prop where
  rows : SameRows E l
  cols : ∀ v < l.length, AllIn (l.getD v []) 0 1000000000000 ∧ (l.getD v []).Nodup
  ends : ∀ v < l.length, ∀ i < (E.getD v []).length, EdgeAt E l v i

theorem rowD {α : Type} {l : List (List α)} {v : Nat} (hv : v < l.length) : l.getD v [] = l[v] := by
  rw [List.getD_eq_getElem?_getD, List.getElem?_eq_getElem hv]; rfl

theorem portsOk_ok {w : World} {a b c s : Sl} {n : Net} {l : List (List Int)} (h : RNet w a b c n) (hl : R w s l) :
    Calls Tryz.prog F.i_portsOk #[.agg #[a.v, b.v, c.v], s.v] w (Ret [.at .bool] fun (x : Bool) w' => (x = true ↔ SameRows n.ends l) ∧ Ext w w') := by
  refine C_i_portsOk ?_
  unfold V_i_portsOk
  refine NEW_intro fun p w1 hp hs hE1 hb1 => LD_bs0 hb1 ?_
  rw [h.1.len, hl.len]
  refine cond_ne (fun hne => ⟨?_, hE1⟩) (fun heq => ?_)
  · simp only [Bool.false_eq_true, false_iff]
    intro hM; have := hM.1; omega
  have hlen : l.length = n.ends.length := by omega
  have hle := hl.le
  refine ⟨IN l.length fun v w' => w' = w1 ∧ ∀ u < v, (l.getD u []).length = (n.ends.getD u []).length, MN l.length, IN_zero ⟨rfl, fun u hu => absurd hu (by omega)⟩, ?_⟩
  rintro _ _ ⟨v, rfl, hv, rfl, hI⟩
  intros
  refine cond_dec (fun hlt => ?_) (fun hge => ⟨?_, hE1⟩)
  · have hv' : v < l.length := by omega
    have hve : v < n.ends.length := by omega
    refine (hl.ext hE1).ixL hv' fun q s1 hR1 hc => LD_sl hc ?_
    refine LD_bs0 hb1 ?_
    refine (h.ext hE1).1.ixL hve fun q s2 hR2 hc => LD_sl hc ?_
    rw [hR1.len, hR2.len]
    refine cond_ne (fun hne => ⟨?_, hE1⟩) (fun he => ?_)
    · simp only [Bool.false_eq_true, false_iff]
      intro hM
      have := hM.2 v hv'
      rw [rowD hv', rowD hve] at this
      omega
    · exact IN_next hle hv' ⟨rfl, all_succ hI (by rw [rowD hv', rowD hve]; omega)⟩
  · have : v = l.length := by omega
    subst this
    simp only [true_iff]
    exact ⟨hlen, hI⟩

theorem endD {E : List (List (Int × Int))} {v i : Nat} (hv : v < E.length) (hi : i < E[v].length) : (E.getD v []).getD i (0, 0) = E[v][i] := by
  rw [rowD hv, List.getD_eq_getElem?_getD, List.getElem?_eq_getElem hi]; rfl

theorem at2_get {l : List (List Int)} {v i : Nat} (hv : v < l.length) (hi : i < l[v].length) : at2 l v i = l[v][i] := by
  unfold at2
  rw [rowD hv, List.getD_eq_getElem?_getD, List.getElem?_eq_getElem hi]; rfl
end Go.Proofs.YtlmiookpmneicaaGreat
end

section
/- Faults of labelings, in plain words: no program in sight. -/
namespace Go.Proofs.YtlmiookpmneicaaGreat

def NodeBad (p : Prob) (L : List (List Int)) (v : Nat) : Prop := ((L.getD v []).length : Int) = p.degree ∧ ¬ NodeOk p (L.getD v [])
def endOf (E : Ends) (v k : Nat) : Int × Int := (E.getD v []).getD k (0, 0)
def PortBad (p : Prob) (E : Ends) (L : List (List Int)) (v k : Nat) : Prop := k < (E.getD v []).length ∧ isFirst v k (endOf E v k) = true ∧ ¬ EdgeIs p (at2 L v k) (at2 L (endOf E v k).1.toNat (endOf E v k).2.toNat)
def NoneAt (p : Prob) (E : Ends) (L : List (List Int)) (v : Nat) : Prop := ¬ NodeBad p L v ∧ ∀ k, ¬ PortBad p E L v k
def Clean (p : Prob) (E : Ends) (L : List (List Int)) : Prop := ∀ v < E.length, NoneAt p E L v
def FirstAt (p : Prob) (E : Ends) (L : List (List Int)) (v i : Int) : Prop := ∃ m : Nat, v = m ∧ m < E.length ∧ (∀ u < m, NoneAt p E L u) ∧
  ((i = -1 ∧ NodeBad p L m) ∨ ∃ k : Nat, i = k ∧ ¬ NodeBad p L m ∧ PortBad p E L m k ∧ ∀ j < k, ¬ PortBad p E L m j)

theorem FirstAt.bad {p : Prob} {E : Ends} {L : List (List Int)} {v i : Int} (h : FirstAt p E L v i) : ¬ Clean p E L := fun hc => by
  obtain ⟨m, _, hm, _, h⟩ := h
  obtain ⟨h1, h2⟩ := hc m hm
  rcases h with ⟨_, h⟩ | ⟨k, _, _, h, _⟩
  · exact h1 h
  · exact h2 k h

theorem FirstAt.eq {p : Prob} {E : Ends} {L : List (List Int)} {v i v' i' : Int} (h : FirstAt p E L v i) (h' : FirstAt p E L v' i') : v = v' ∧ i = i' := by
  obtain ⟨m, rfl, hm, hn, hb⟩ := h
  obtain ⟨m', rfl, hm', hn', hb'⟩ := h'
  have key : ∀ {m : Nat} {i : Int}, NoneAt p E L m → ((i = -1 ∧ NodeBad p L m) ∨ ∃ k : Nat, i = k ∧ ¬ NodeBad p L m ∧ PortBad p E L m k ∧ ∀ j < k, ¬ PortBad p E L m j) → False := by
    rintro m i ⟨h1, h2⟩ (⟨_, h⟩ | ⟨k, _, _, h, _⟩)
    · exact h1 h
    · exact h2 k h
  rcases Nat.lt_trichotomy m m' with hlt | heq | hgt
  · exact (key (hn' m hlt) hb).elim
  · subst heq
    refine ⟨rfl, ?_⟩
    rcases hb with ⟨rfl, h1⟩ | ⟨k, rfl, h1, h2, h3⟩
    · rcases hb' with ⟨rfl, _⟩ | ⟨k', rfl, h1', _⟩
      · rfl
      · exact absurd h1 h1'
    · rcases hb' with ⟨rfl, h1'⟩ | ⟨k', rfl, _, h2', h3'⟩
      · exact absurd h1' h1
      · rcases Nat.lt_trichotomy k k' with hlt | heq | hgt
        · exact absurd h2 (h3' k hlt)
        · rw [heq]
        · exact absurd h2' (h3 k' hgt)
  · exact (key (hn m' hgt) hb').elim

/-- What is asked of a labeling. -/
structure LabOk (p : Prob) (E : Ends) (L : List (List Int)) : Prop where
  rows : SameRows E L
  labs : ∀ r ∈ L, AllIn r 0 (p.labels - 1)

structure SolAsked (p : Prob) (n : Net) (L : List (List Int)) : Prop where
  prob : PGood p
  good : Good n
  lab : LabOk p n.ends L

structure AnsFF (p : Prob) (n : Net) (L : List (List Int)) (v i : Int) (b : Bool) : Prop where
  ok : b = true ↔ SolAsked p n L ∧ ¬ Clean p n.ends L
  yes : b = true → FirstAt p n.ends L v i
  no : b = false → v = 0 ∧ i = 0

theorem AnsFF.eq {p : Prob} {n : Net} {L : List (List Int)} {v i v' i' : Int} {b b' : Bool} (h : AnsFF p n L v i b) (h' : AnsFF p n L v' i' b') : v = v' ∧ i = i' ∧ b = b' := by
  have hoo : b = b' := by rw [Bool.eq_iff_iff, h.ok, h'.ok]
  subst hoo
  cases b with
  | false =>
    obtain ⟨rfl, rfl⟩ := h.no rfl
    obtain ⟨rfl, rfl⟩ := h'.no rfl
    exact ⟨rfl, rfl, rfl⟩
  | true =>
    obtain ⟨rfl, rfl⟩ := (h.yes rfl).eq (h'.yes rfl)
    exact ⟨rfl, rfl, rfl⟩

theorem AnsFF.none {p : Prob} {n : Net} {L : List (List Int)} (h : ¬ (SolAsked p n L ∧ ¬ Clean p n.ends L)) : AnsFF p n L 0 0 false := ⟨by simp only [Bool.false_eq_true, false_iff]; exact h, fun hh => (by cases hh), fun _ => ⟨rfl, rfl⟩⟩

end Go.Proofs.YtlmiookpmneicaaGreat
end

section
/- Label maps, in plain words: no program in sight. -/
namespace Go.Proofs.YtlmiookpmneicaaGreat

/-- The images of labels. -/
def img (f l : List Int) : List Int := l.map fun a => f.getD a.toNat 0

structure MapOk (p q : Prob) (f : List Int) : Prop where
  len : (f.length : Int) = p.labels
  labs : AllIn f 0 (q.labels - 1)
  nodes : ∀ c ∈ p.nodes, sortI (img f c) ∈ q.nodes
  edges : ∀ c ∈ p.edges, sortI (img f c) ∈ q.edges

structure MlAsked (p q : Prob) (f : List Int) (n : Net) (L : List (List Int)) : Prop where
  left : PGood p
  right : PGood q
  deg : p.degree = q.degree
  map : MapOk p q f
  good : Good n
  lab : LabOk p n.ends L

theorem img2 {f c : List Int} (h : c.length = 2) : img f c = [f.getD (c[0]'(by omega)).toNat 0, f.getD (c[1]'(by omega)).toNat 0] := by
  match c, h with
  | [a, b], _ => rfl

end Go.Proofs.YtlmiookpmneicaaGreat
end

section
/- slices.SortStableFunc at []int, for lists of numbers: the pieces of its code (swaps, rotations, insertion, merging) and what they bring about. -/
namespace Go.Proofs.YtlmiookpmneicaaGreat
open Go.GX Go.RowKit
set_option maxRecDepth 100000

/-! ### Places and swaps -/

def gt (l : List Int) (i : Nat) : Int := l.getD i 0
theorem gt_get {l : List Int} {i : Nat} (h : i < l.length) : gt l i = l[i] := by simp [gt, h]
def swp (l : List Int) (p q : Nat) : List Int := (l.set q (gt l p)).set p (gt l q)

theorem swp_len (l : List Int) (p q : Nat) : (swp l p q).length = l.length := by simp [swp]
theorem gt_set (l : List Int) (p : Nat) (x : Int) (k : Nat) (hp : p < l.length) : gt (l.set p x) k = if k = p then x else gt l k := by
  unfold gt
  simp only [List.getD_eq_getElem?_getD]
  by_cases h : k = p
  · subst h; simp [hp]
  · rw [List.getElem?_set_ne (Ne.symm h), if_neg h]
theorem swp_get {l : List Int} {p q : Nat} (hp : p < l.length) (hq : q < l.length) (k : Nat) : gt (swp l p q) k = if k = p then gt l q else if k = q then gt l p else gt l k := by
  unfold swp
  rw [gt_set _ _ _ _ (by simpa using hp), gt_set _ _ _ _ hq]
theorem swp_perm {l : List Int} {p q : Nat} (hp : p < l.length) (hq : q < l.length) : (swp l p q).Perm l := by
  have := List.set_set_perm hq hp
  unfold swp
  rw [gt_get hp, gt_get hq]
  exact this

/-- The list that is being sorted: in memory, changed in its own block alone, a permutation of the first one. -/
structure Sd (w0 : World) (base : Nat) (s : Sl) (l0 : List Int) (w : World) (l : List Int) : Prop where
  own : OwnL w base T.t_int s l
  chg : Chg w0 w (oB s)
  perm : l.Perm l0

/-- The comparison: negative where the first key is less; it changes nothing. -/
def Cmp (w0 : World) (s : Sl) (cmp : Value) (key : Int → Int) (l0 : List Int) : Prop :=
  ∀ x ∈ l0, ∀ y ∈ l0, ∀ w', Chg w0 w' (oB s) → CALLV Tryz.prog cmp #[.int .i64 x, .int .i64 y] w' (Ret [.at (.int .i64)] fun (r : Int) w'' => (r < 0 ↔ key x < key y) ∧ Ext w' w'')

section
variable {w0 w w' : World} {base : Nat} {s : Sl} {l0 l : List Int} {cmp : Value} {key : Int → Int}

theorem Sd.ext (h : Sd w0 base s l0 w l) (hE : Ext w w') : Sd w0 base s l0 w' l := ⟨h.own.ext hE, h.chg.trans (.of_ext hE), h.perm⟩
theorem Sd.len (h : Sd w0 base s l0 w l) : l.length = l0.length := h.perm.length_eq
theorem Sd.mem (h : Sd w0 base s l0 w l) {i : Nat} (hi : i < l0.length) : gt l i ∈ l0 := by
  have hi' : i < l.length := by rw [h.len]; exact hi
  rw [gt_get hi']
  exact h.perm.mem_iff.1 (List.getElem_mem hi')
theorem Sd.rep (h : Sd w0 base s l0 w l) (hI : ∀ x ∈ l0, I64 x) : R w s l := (h.own.rep fun x hx => hI x (h.perm.mem_iff.1 hx)).any
theorem Sd.ix (h : Sd w0 base s l0 w l) (hI : ∀ x ∈ l0, I64 x) {i : Nat} (hi : i < l0.length) {K : Addr → Prop} (hk : ∀ p, w.cell? p = some (.int .i64 (gt l i)) → K p) : IX s i 1 K := by
  have hi' : i < l.length := by rw [h.len]; exact hi
  refine (h.rep hI).ixI hi' fun p _ hc => hk p ?_
  rw [gt_get hi']; exact hc

theorem Sd.swap (h : Sd w0 base s l0 w l) (hI : ∀ x ∈ l0, I64 x) {p q : Nat} (hp : p < l0.length) (hq : q < l0.length) {K : World → Prop} (hk : ∀ w', Sd w0 base s l0 w' (swp l p q) → K w') :
    ∃ D : Nat → Prop, IX s p 1 fun a1 => IX s q 1 fun a2 => ¬ D a1.block ∧ (LD [.int .i64] a1 w fun x => LD [.int .i64] a2 w fun y => Chg w w D ∧ (IX s q 1 fun a3 => GX.ST a3 0 [.int .i64 x] w fun w9 => IX s p 1 fun a4 => GX.ST a4 0 [.int .i64 y] w9 K)) := by
  have hp' : p < l.length := by rw [h.len]; exact hp
  have hq' : q < l.length := by rw [h.len]; exact hq
  refine ⟨fun _ => False, h.ix hI hp fun a1 hc1 => h.ix hI hq fun a2 hc2 => ⟨not_false, LD_int hc1 (LD_int hc2 ⟨Chg.refl _ _, ?_⟩)⟩⟩
  refine IX_own h.own hq' rfl fun p1 hp1 => ST_own h.own hq' hp1 (gt l p) rfl fun w1 hO1 hs1 => ?_
  refine IX_own hO1 (by simpa using hp') rfl fun p2 hp2 => ST_own hO1 (by simpa using hp') hp2 (gt l q) rfl fun w2 hO2 hs2 => ?_
  exact hk w2 ⟨hO2, h.chg.trans ((Chg.of_step hs1 fun k hk => hk).trans (.of_step hs2 fun k hk => hk)), (swp_perm hp' hq').trans h.perm⟩

/-! ### Ranges swapped and rotated -/

/-- Where a place's content comes from when two ranges of n places change places. -/
def tau (a b n k : Nat) : Nat := if a ≤ k ∧ k < a + n then k + (b - a) else if b ≤ k ∧ k < b + n then k - (b - a) else k

theorem swapRange_ok (h : Sd w0 base s l0 w l) (hI : ∀ x ∈ l0, I64 x) (hl : l0.length ≤ 1000) {a b n : Nat} (hab : a + n ≤ b) (hb : b + n ≤ l0.length) :
    Calls Tryz.prog F.slices_swapRangeCmpFunc_int #[s.v, .int .i64 a, .int .i64 b, .int .i64 n, cmp] w (Ret [] fun w' => ∃ l', Sd w0 base s l0 w' l' ∧ ∀ k, gt l' k = gt l (tau a b n k)) := by
  refine C_slices_swapRangeCmpFunc_int ?_
  unfold V_slices_swapRangeCmpFunc_int
  refine ⟨IN n fun i w' => ∃ l', Sd w0 base s l0 w' l' ∧ ∀ k, gt l' k = gt l (tau a b i k), MN n, IN_zero ⟨l, h, fun k => by unfold tau; rw [if_neg (by omega), if_neg (by omega)]⟩, ?_⟩
  rintro _ w1 ⟨i, rfl, hi, l1, h1, hg⟩
  intros
  refine cond_dec (fun hlt => ?_) (fun hge => ?_)
  · have hi' : i < n := by omega
    intro w2 hE2 _
    have h2 := h1.ext hE2
    rw [wrap_of (n := (b : Int) + i) (by omega) (by omega), wrap_of (n := (a : Int) + i) (by omega) (by omega)]
    have e1 : ((b : Int) + i) = ((b + i : Nat) : Int) := by omega
    have e2 : ((a : Int) + i) = ((a + i : Nat) : Int) := by omega
    rw [e1, e2]
    refine h2.swap hI (by omega) (by omega) fun w4 h4 => IN_next (by omega) hi' ⟨_, h4, fun k => ?_⟩
    have hll := h2.len
    rw [swp_get (by omega) (by omega), hg, hg, hg]
    have key : (if k = b + i then tau a b i (a + i) else if k = a + i then tau a b i (b + i) else tau a b i k) = tau a b (i + 1) k := by
      unfold tau
      repeat' split
      all_goals omega
    rw [← key]
    split
    · rfl
    · split <;> rfl
  · have : i = n := by omega
    subst this
    exact ⟨l1, h1, hg⟩

/-- Where a place's content comes from when the ranges [a, m) and [m, b) change places. -/
def sig (a m b k : Nat) : Nat := if a ≤ k ∧ k < a + (b - m) then k + (m - a) else if a + (b - m) ≤ k ∧ k < b then k - (b - m) else k

theorem rotate_ok (h : Sd w0 base s l0 w l) (hI : ∀ x ∈ l0, I64 x) (hl : l0.length ≤ 1000) {a m b : Nat} (ham : a < m) (hmb : m < b) (hb : b ≤ l0.length) :
    Calls Tryz.prog F.slices_rotateCmpFunc_int #[s.v, .int .i64 a, .int .i64 m, .int .i64 b, cmp] w (Ret [] fun w' => ∃ l', Sd w0 base s l0 w' l' ∧ ∀ k, gt l' k = gt l (sig a m b k)) := by
  refine C_slices_rotateCmpFunc_int ?_
  unfold V_slices_rotateCmpFunc_int
  rw [wrap_of (n := (m : Int) - a) (by omega) (by omega), wrap_of (n := (b : Int) - m) (by omega) (by omega)]
  refine ⟨fun x y w' => ∃ i j : Nat, x = i ∧ y = j ∧ 0 < i ∧ 0 < j ∧ i ≤ m ∧ m + j ≤ l0.length ∧ ∃ l', Sd w0 base s l0 w' l' ∧ ∀ k, gt l (sig a m b k) = gt l' (sig (m - i) m (m + j) k), fun x y _ => x.toNat + y.toNat,
    ⟨m - a, b - m, by omega, by omega, by omega, by omega, by omega, by omega, l, h, fun k => by rw [show m - (m - a) = a by omega, show m + (b - m) = b by omega]⟩, ?_⟩
  rintro _ _ w1 ⟨i, j, rfl, rfl, hi0, hj0, him, hjl, l1, h1, hg⟩
  intros
  have e1 : IntKind.i64.wrap ((m : Int) - i) = ((m - i : Nat) : Int) := by rw [wrap_of (by omega) (by omega)]; omega
  rw [e1]
  refine cond_ne (fun hne => ?_) (fun heq => ?_)
  · refine cond_dec (fun hgt => ?_) (fun hle => ?_)
    · refine call (swapRange_ok h1 hI hl (a := m - i) (b := m) (n := j) (by omega) (by omega)) ?_
      rintro w2 ⟨l2, h2, hg2⟩
      rw [wrap_of (n := (i : Int) - j) (by omega) (by omega)]
      refine ⟨⟨i - j, j, by omega, rfl, by omega, hj0, by omega, hjl, l2, h2, fun k => ?_⟩, by simp only []; omega⟩
      rw [hg, hg2]
      congr 1
      unfold sig tau
      repeat' split
      all_goals omega
    · have e2 : IntKind.i64.wrap (IntKind.i64.wrap ((m : Int) + j) - i) = ((m + j - i : Nat) : Int) := by rw [wrap_of (n := (m : Int) + j) (by omega) (by omega), wrap_of (by omega) (by omega)]; omega
      rw [e2]
      refine call (swapRange_ok h1 hI hl (a := m - i) (b := m + j - i) (n := i) (by omega) (by omega)) ?_
      rintro w2 ⟨l2, h2, hg2⟩
      rw [wrap_of (n := (j : Int) - i) (by omega) (by omega)]
      refine ⟨⟨i, j - i, rfl, by omega, hi0, by omega, him, by omega, l2, h2, fun k => ?_⟩, by simp only []; omega⟩
      rw [hg, hg2]
      congr 1
      unfold sig tau
      repeat' split
      all_goals omega
  · have : i = j := by omega
    subst this
    refine call (swapRange_ok h1 hI hl (a := m - i) (b := m) (n := i) (by omega) (by omega)) ?_
    rintro w2 ⟨l2, h2, hg2⟩
    refine ⟨l2, h2, fun k => ?_⟩
    rw [hg, hg2]
    congr 1
    unfold sig tau
    repeat' split
    all_goals omega

/-! ### Order -/

def ltK (key : Int → Int) (x y : Int) : Prop := key x < key y ∨ (key x = key y ∧ x < y)
theorem ltK.trans {key : Int → Int} {x y z : Int} (h : ltK key x y) (k : ltK key y z) : ltK key x z := by
  unfold ltK at *; omega
theorem ltK.le {key : Int → Int} {x y : Int} (h : ltK key x y) : key x ≤ key y := by unfold ltK at h; omega

/-- Sorted between two places. -/
def SIn (key : Int → Int) (l : List Int) (a b : Nat) : Prop := ∀ i j, a ≤ i → i < j → j < b → ltK key (gt l i) (gt l j)
/-- What lies between two places lay there before. -/
def SubIn (l l' : List Int) (a b : Nat) : Prop := ∀ i, a ≤ i → i < b → ∃ j, a ≤ j ∧ j < b ∧ gt l' i = gt l j
def SameOut (l l' : List Int) (a b : Nat) : Prop := ∀ i, (i < a ∨ b ≤ i) → gt l' i = gt l i

theorem SubIn.refl (l : List Int) (a b : Nat) : SubIn l l a b := fun i h1 h2 => ⟨i, h1, h2, rfl⟩
theorem SubIn.trans {l l' l'' : List Int} {a b : Nat} (h : SubIn l l' a b) (k : SubIn l' l'' a b) : SubIn l l'' a b := fun i h1 h2 => by
  obtain ⟨j, h3, h4, h5⟩ := k i h1 h2
  obtain ⟨m, h6, h7, h8⟩ := h j h3 h4
  exact ⟨m, h6, h7, h5.trans h8⟩
theorem SubIn.wide {l l' : List Int} {a b a' b' : Nat} (h : SubIn l l' a b) (ho : SameOut l l' a b) (ha : a' ≤ a) (hb : b ≤ b') : SubIn l l' a' b' := fun i h1 h2 => by
  by_cases hi : a ≤ i ∧ i < b
  · obtain ⟨j, h3, h4, h5⟩ := h i hi.1 hi.2
    exact ⟨j, by omega, by omega, h5⟩
  · exact ⟨i, h1, h2, ho i (by omega)⟩
theorem SameOut.wide {l l' : List Int} {a b a' b' : Nat} (h : SameOut l l' a b) (ha : a' ≤ a) (hb : b ≤ b') : SameOut l l' a' b' := fun i hi => h i (by omega)
theorem SameOut.trans {l l' l'' : List Int} {a b : Nat} (h : SameOut l l' a b) (k : SameOut l' l'' a b) : SameOut l l'' a b := fun i hi => (k i hi).trans (h i hi)

/-- While a number sinks to its place: it lies at place j; the others are sorted; those behind it are greater. -/
structure Sink (key : Int → Int) (l l' : List Int) (a i j : Nat) (x : Int) : Prop where
  at_ : gt l' j = x
  sorted : ∀ p q, a ≤ p → p < q → q ≤ i → p ≠ j → q ≠ j → ltK key (gt l' p) (gt l' q)
  behind : ∀ q, j < q → q ≤ i → ltK key x (gt l' q)
  sub : ∀ p, a ≤ p → p ≤ i → p ≠ j → ∃ m, a ≤ m ∧ m < i ∧ gt l' p = gt l m
  out : ∀ p, (p < a ∨ i < p) → gt l' p = gt l p

theorem insertion_ok (h : Sd w0 base s l0 w l) (hI : ∀ x ∈ l0, I64 x) (hl : l0.length ≤ 1000) (hc : Cmp w0 s cmp key l0) {a b : Nat} (hab : a ≤ b) (hb : b ≤ l0.length) (hinc : ∀ i j, a ≤ i → i < j → j < b → gt l i < gt l j) :
    Calls Tryz.prog F.slices_insertionSortCmpFunc_int #[s.v, .int .i64 a, .int .i64 b, cmp] w (Ret [] fun w' => ∃ l', Sd w0 base s l0 w' l' ∧ SIn key l' a b ∧ SubIn l l' a b ∧ SameOut l l' a b) := by
  refine C_slices_insertionSortCmpFunc_int ?_
  unfold V_slices_insertionSortCmpFunc_int
  rw [wrap_of (n := (a : Int) + 1) (by omega) (by omega)]
  refine ⟨fun x w' => ∃ i : Nat, x = i ∧ a + 1 ≤ i ∧ (i ≤ b ∨ i = a + 1) ∧ ∃ l', Sd w0 base s l0 w' l' ∧ SIn key l' a i ∧ (∀ p, a ≤ p → p < i → p < b → ∃ m, a ≤ m ∧ m < i ∧ m < b ∧ gt l' p = gt l m) ∧ SameOut l l' a (min i b), fun x _ => b - x.toNat,
    ⟨a + 1, by omega, by omega, .inr rfl, l, h, fun i j h1 h2 h3 => by omega, fun p h1 h2 h3 => ⟨p, h1, h2, h3, rfl⟩, fun i _ => rfl⟩, ?_⟩
  rintro _ w1 ⟨i, rfl, hi1, hi2, l1, h1, hs1, hu1, ho1⟩
  intros
  refine cond_dec (fun hlt => ?_) (fun hge => ?_)
  rotate_left
  · refine ⟨l1, h1, fun p q k1 k2 k3 => hs1 p q k1 k2 (by omega), fun p k1 k2 => ?_, fun p hp => ho1 p (by omega)⟩
    obtain ⟨m, m1, m2, m3, m4⟩ := hu1 p k1 (by omega) k2
    exact ⟨m, m1, m3, m4⟩
  have hib : i < b := by omega
  have hx : gt l1 i = gt l i := ho1 i (by omega)
  refine ⟨fun y w' => ∃ j : Nat, y = j ∧ a ≤ j ∧ j ≤ i ∧ ∃ l', Sd w0 base s l0 w' l' ∧ Sink key l l' a i j (gt l i), fun y _ => y.toNat,
    ⟨i, rfl, by omega, Nat.le_refl _, l1, h1, ⟨hx, fun p q k1 k2 k3 k4 k5 => hs1 p q k1 k2 (by omega), fun q k1 k2 => by omega, fun p k1 k2 k3 => ?_, fun p hp => ho1 p (by omega)⟩⟩, ?_⟩
  · obtain ⟨m, m1, m2, m3, m4⟩ := hu1 p k1 (by omega) (by omega)
    exact ⟨m, m1, m2, m4⟩
  rintro _ w2 ⟨j, rfl, hja, hji, l2, h2, hk⟩
  intros
  rename_i w3 hE3 _
  have h3 := h2.ext hE3
  have hdone : ∀ w', Ext w3 w' → (j = a ∨ (a < j ∧ ¬ key (gt l i) < key (gt l2 (j - 1)))) → (fun (x : Int) w' => ∃ i : Nat, x = i ∧ a + 1 ≤ i ∧ (i ≤ b ∨ i = a + 1) ∧ ∃ l', Sd w0 base s l0 w' l' ∧ SIn key l' a i ∧ (∀ p, a ≤ p → p < i → p < b → ∃ m, a ≤ m ∧ m < i ∧ m < b ∧ gt l' p = gt l m) ∧ SameOut l l' a (min i b)) (IntKind.i64.wrap ((i : Int) + 1)) w' ∧ b - (IntKind.i64.wrap ((i : Int) + 1)).toNat < b - ((i : Int)).toNat := by
    intro w' hE' hstop
    rw [wrap_of (by omega) (by omega)]
    refine ⟨⟨i + 1, by omega, by omega, .inl (by omega), l2, h3.ext hE', fun p q k1 k2 k3 => ?_, fun p k1 k2 k3 => ?_, fun p hp => hk.out p (by omega)⟩, by omega⟩
    · have hbelow : ∀ p, a ≤ p → p < j → ltK key (gt l2 p) (gt l i) := fun p k1 k2 => by
        rcases hstop with rfl | ⟨hj1, hj2⟩
        · omega
        · obtain ⟨m, m1, m2, m3⟩ := hk.sub (j - 1) (by omega) (by omega) (by omega)
          have hnum := hinc m i m1 m2 hib
          have hlast : ltK key (gt l2 (j - 1)) (gt l i) := by
            unfold ltK
            rw [m3] at hj2 ⊢
            omega
          by_cases hp : p = j - 1
          · subst hp; exact hlast
          · exact (hk.sorted p (j - 1) k1 (by omega) (by omega) (by omega) (by omega)).trans hlast
      by_cases hp : p = j
      · subst hp
        rw [hk.at_]
        exact hk.behind q k2 (by omega)
      · by_cases hq : q = j
        · subst hq
          rw [hk.at_]
          exact hbelow p k1 k2
        · exact hk.sorted p q k1 k2 (by omega) hp hq
    · by_cases hp : p = j
      · subst hp
        exact ⟨i, by omega, by omega, hib, hk.at_⟩
      · obtain ⟨m, m1, m2, m3⟩ := hk.sub p k1 (by omega) hp
        exact ⟨m, m1, by omega, by omega, m3⟩
  refine ⟨Ext.refl _, Ext.refl _, Ext.refl _, cond_dec (fun hgt => ?_) (fun hle => ⟨Ext.refl _, hdone w3 (Ext.refl _) (.inl (by omega))⟩)⟩
  have hja' : a < j := by omega
  have e1 : IntKind.i64.wrap ((j : Int) - 1) = ((j - 1 : Nat) : Int) := by rw [wrap_of (by omega) (by omega)]; omega
  rw [e1]
  refine h3.ix hI (i := j) (by omega) fun p1 hc1 => LD_int hc1 ⟨Ext.refl _, Ext.refl _, h3.ix hI (i := j - 1) (by omega) fun p2 hc2 => ⟨Ext.refl _, LD_int hc2 ⟨Ext.refl _, ?_⟩⟩⟩
  refine callv (hc _ (h3.mem (by omega)) _ (h3.mem (by omega)) w3 h3.chg) ?_
  rintro r w4 ⟨hr, hE4⟩
  have h4 := h3.ext hE4
  rw [hk.at_] at hr
  refine ⟨hE4, Ext.refl _, Ext.refl _, cond_dec (fun hneg => ?_) (fun hnn => hdone w4 hE4 (.inr ⟨hja', fun hh => hnn (hr.2 hh)⟩))⟩
  have hkey := hr.1 hneg
  intro w8 hE8 _
  refine (h4.ext hE8).swap hI (p := j - 1) (q := j) (by omega) (by omega) fun w10 h10 => ⟨⟨j - 1, rfl, by omega, by omega, _, h10, ?_⟩, by simp only []; omega⟩
  have hll := h4.len
  have hsg := fun k => swp_get (l := l2) (p := j - 1) (q := j) (by omega) (by omega) k
  refine ⟨by rw [hsg, if_pos rfl, hk.at_], fun p q k1 k2 k3 k4 k5 => ?_, fun q k1 k2 => ?_, fun p k1 k2 k3 => ?_, fun p hp => ?_⟩
  · rw [hsg, hsg, if_neg k4, if_neg k5]
    by_cases hp : p = j
    · subst hp
      rw [if_pos rfl, if_neg (by omega)]
      exact hk.sorted (p - 1) q (by omega) (by omega) k3 (by omega) (by omega)
    · rw [if_neg hp]
      by_cases hq : q = j
      · subst hq
        rw [if_pos rfl]
        exact hk.sorted p (q - 1) k1 (by omega) (by omega) hp (by omega)
      · rw [if_neg hq]
        exact hk.sorted p q k1 k2 k3 hp hq
  · rw [hsg, if_neg (by omega)]
    by_cases hq : q = j
    · subst hq
      rw [if_pos rfl]
      exact .inl hkey
    · rw [if_neg hq]
      exact hk.behind q (by omega) k2
  · rw [hsg, if_neg k3]
    by_cases hp : p = j
    · subst hp
      rw [if_pos rfl]
      exact hk.sub (p - 1) (by omega) (by omega) (by omega)
    · rw [if_neg hp]
      exact hk.sub p k1 k2 hp
  · rw [hsg, if_neg (by omega), if_neg (by omega)]
    exact hk.out p hp

/-! ### Merging -/

theorem half_nat {a b : Nat} (h : a + b ≤ 100000) : IntKind.i64.wrap (shrI .u64 (IntKind.u64.wrap (IntKind.i64.wrap ((a : Int) + (b : Int)))) 1) = (((a + b) / 2 : Nat) : Int) := by
  rw [wrap_of (n := (a : Int) + b) (by omega) (by omega), wrap_u64 (by omega) (by omega)]
  have e : ((a : Int) + (b : Int)) = ((a + b : Nat) : Int) := by omega
  have e1 : (1 : Int) = ((1 : Nat) : Int) := rfl
  rw [e, e1, shr_nat .u64 (a + b) 1 (by decide)]
  have : (a + b) / 2 ^ 1 = (a + b) / 2 := rfl
  rw [this, wrap_of (by omega) (by omega)]

theorem sig_id {a m b k : Nat} (h : a = m ∨ m = b) (ham : a ≤ m) (hmb : m ≤ b) : sig a m b k = k := by
  unfold sig
  repeat' split
  all_goals omega

/-- What is known when the place of the cut is found. -/
structure Cut (key : Int → Int) (l : List Int) (a m b c e : Nat) : Prop where
  ac : a ≤ c
  cm : c ≤ m
  me : m ≤ e
  eb : e ≤ b
  low : ∀ p q, a ≤ p → p < c → e ≤ q → q < b → ltK key (gt l p) (gt l q)
  high : ∀ p q, m ≤ p → p < e → c ≤ q → q < m → key (gt l p) < key (gt l q)

/-- What the rotation leaves: two pairs of sorted ranges, and all of the first pair before all of the second. -/
structure Mid (key : Int → Int) (l l1 : List Int) (a b c e d : Nat) : Prop where
  s11 : SIn key l1 a c
  s12 : SIn key l1 c d
  s21 : SIn key l1 d e
  s22 : SIn key l1 e b
  n1 : ∀ i j, a ≤ i → i < c → c ≤ j → j < d → gt l1 i < gt l1 j
  n2 : ∀ i j, d ≤ i → i < e → e ≤ j → j < b → gt l1 i < gt l1 j
  cross : ∀ p q, a ≤ p → p < d → d ≤ q → q < b → ltK key (gt l1 p) (gt l1 q)
  sub : SubIn l l1 a b
  out : SameOut l l1 a b

theorem mid_of {a m b c e d : Nat} {l1 : List Int} (hs1 : SIn key l a m) (hs2 : SIn key l m b) (hnum : ∀ i j, a ≤ i → i < m → m ≤ j → j < b → gt l i < gt l j) (hC : Cut key l a m b c e) (hd : c + e = d + m) (hg : ∀ k, gt l1 k = gt l (sig c m e k)) : Mid key l l1 a b c e d := by
  obtain ⟨h1, h2, h3, h4, hlow, hhigh⟩ := hC
  have f1 : ∀ k, k < c → gt l1 k = gt l k := fun k hk => by rw [hg]; unfold sig; rw [if_neg (by omega), if_neg (by omega)]
  have f2 : ∀ k, c ≤ k → k < d → gt l1 k = gt l (k + (m - c)) := fun k hk hk2 => by rw [hg]; unfold sig; rw [if_pos (by omega)]
  have f3 : ∀ k, d ≤ k → k < e → gt l1 k = gt l (k - (e - m)) := fun k hk hk2 => by rw [hg]; unfold sig; rw [if_neg (by omega), if_pos (by omega)]
  have f4 : ∀ k, e ≤ k → gt l1 k = gt l k := fun k hk => by rw [hg]; unfold sig; rw [if_neg (by omega), if_neg (by omega)]
  refine ⟨fun p q k1 k2 k3 => ?_, fun p q k1 k2 k3 => ?_, fun p q k1 k2 k3 => ?_, fun p q k1 k2 k3 => ?_, fun p q k1 k2 k3 k4 => ?_, fun p q k1 k2 k3 k4 => ?_, fun p q k1 k2 k3 k4 => ?_, fun p k1 k2 => ?_, fun p hp => ?_⟩
  · rw [f1 p (by omega), f1 q k3]; exact hs1 p q k1 k2 (by omega)
  · rw [f2 p k1 (by omega), f2 q (by omega) k3]; exact hs2 _ _ (by omega) (by omega) (by omega)
  · rw [f3 p k1 (by omega), f3 q (by omega) k3]; exact hs1 _ _ (by omega) (by omega) (by omega)
  · rw [f4 p k1, f4 q (by omega)]; exact hs2 _ _ (by omega) k2 k3
  · rw [f1 p k2, f2 q k3 k4]; exact hnum _ _ k1 (by omega) (by omega) (by omega)
  · rw [f3 p k1 k2, f4 q k3]; exact hnum _ _ (by omega) (by omega) (by omega) k4
  · by_cases c1 : p < c
    · rw [f1 p c1]
      by_cases c2 : q < e
      · rw [f3 q k3 c2]; exact hs1 _ _ k1 (by omega) (by omega)
      · rw [f4 q (by omega)]; exact hlow p q k1 c1 (by omega) k4
    · rw [f2 p (by omega) k2]
      by_cases c2 : q < e
      · rw [f3 q k3 c2]; exact .inl (hhigh _ _ (by omega) (by omega) (by omega) (by omega))
      · rw [f4 q (by omega)]; exact hs2 _ _ (by omega) (by omega) k4
  · rw [hg]
    refine ⟨_, ?_, ?_, rfl⟩
    · unfold sig; (repeat' split) <;> omega
    · unfold sig; (repeat' split) <;> omega
  · rw [hg]
    congr 1
    unfold sig
    (repeat' split) <;> omega

theorem symMerge_ok (hI : ∀ x ∈ l0, I64 x) (hl : l0.length ≤ 1000) (hc : Cmp w0 s cmp key l0) : ∀ (d : Nat) {w : World} {l : List Int} (_ : Sd w0 base s l0 w l) {a m b : Nat}, b - a ≤ d → a < m → m < b → b ≤ l0.length → SIn key l a m → SIn key l m b → (∀ i j, a ≤ i → i < m → m ≤ j → j < b → gt l i < gt l j) →
    Calls Tryz.prog F.slices_symMergeCmpFunc_int #[s.v, .int .i64 a, .int .i64 m, .int .i64 b, cmp] w (Ret [] fun w' => ∃ l', Sd w0 base s l0 w' l' ∧ SIn key l' a b ∧ SubIn l l' a b ∧ SameOut l l' a b)
  | 0, w, l, _, a, m, b, hd, ham, hmb, _, _, _, _ => by omega
  | d + 1, w, l, h, a, m, b, hd, ham, hmb, hb, hs1, hs2, hnum => by
    refine C_slices_symMergeCmpFunc_int ?_
    unfold V_slices_symMergeCmpFunc_int
    rw [wrap_of (n := (m : Int) - a) (by omega) (by omega), wrap_of (n := (b : Int) - m) (by omega) (by omega)]
    have hlen := h.len
    refine cond_eq (fun hone => ?_) (fun hnone => cond_eq (fun hone => ?_) (fun hnone2 => ?_))
    · -- one number on the left
      have hma : m = a + 1 := by omega
      subst hma
      refine ⟨fun x y w' => ∃ i j : Nat, x = i ∧ y = j ∧ a + 1 ≤ i ∧ i ≤ j ∧ j ≤ b ∧ Sd w0 base s l0 w' l ∧ (∀ p, a + 1 ≤ p → p < i → key (gt l p) < key (gt l a)) ∧ (∀ p, j ≤ p → p < b → ¬ key (gt l p) < key (gt l a)), fun x y _ => y.toNat - x.toNat,
        ⟨a + 1, b, by omega, rfl, by omega, by omega, by omega, h, fun p h1 h2 => by omega, fun p h1 h2 => by omega⟩, ?_⟩
      rintro _ _ w1 ⟨i, j, rfl, rfl, hi, hij, hjb, h1, hlo, hhi⟩
      intros
      refine cond_dec (fun hlt => ⟨by omega, ?_⟩) (fun hge => ?_)
      · intro w2 hE2 _
        have h2 := h1.ext hE2
        rw [half_nat (by omega)]
        have hh1 : i ≤ (i + j) / 2 := by omega
        have hh2 : (i + j) / 2 < j := by omega
        generalize (i + j) / 2 = hf at *
        refine h2.ix hI (i := hf) (by omega) fun p1 hc1 => LD_int hc1 ⟨Ext.refl _, h2.ix hI (i := a) (by omega) fun p2 hc2 => ⟨Ext.refl _, LD_int hc2 ⟨Ext.refl _, ?_⟩⟩⟩
        refine callv (hc _ (h2.mem (by omega)) _ (h2.mem (by omega)) w2 h2.chg) ?_
        rintro r w3 ⟨hr, hE3⟩
        refine ⟨hE3, hE3, cond_dec (fun hneg => ?_) (fun hnn => ?_)⟩
        · rw [wrap_of (by omega) (by omega)]
          refine ⟨⟨hf + 1, j, by omega, rfl, by omega, by omega, hjb, h2.ext hE3, fun p k1 k2 => ?_, hhi⟩, by simp only []; omega⟩
          have hk := hr.1 hneg
          by_cases hp : p = hf
          · subst hp; exact hk
          · have := (hs2 p hf k1 (by omega) (by omega)).le
            omega
        · refine ⟨⟨i, hf, rfl, rfl, hi, hh1, by omega, h2.ext hE3, hlo, fun p k1 k2 => ?_⟩, by simp only []; omega⟩
          have hk : ¬ key (gt l hf) < key (gt l a) := fun hh => hnn (hr.2 hh)
          by_cases hp : p = hf
          · subst hp; exact hk
          · have := (hs2 hf p (by omega) (by omega) k2).le
            omega
      · have : i = j := by omega
        subst this
        rw [wrap_of (n := (i : Int) - 1) (by omega) (by omega)]
        refine ⟨fun x w' => ∃ k : Nat, x = k ∧ a ≤ k ∧ k ≤ i - 1 ∧ ∃ l', Sd w0 base s l0 w' l' ∧ ∀ p, gt l' p = gt l (if a ≤ p ∧ p < k then p + 1 else if p = k then a else p), fun x _ => i - x.toNat,
          ⟨a, rfl, by omega, by omega, l, h1, fun p => by congr 1; (repeat' split) <;> omega⟩, ?_⟩
        rintro _ w4 ⟨k, rfl, hk1, hk2, l4, h4, hg4⟩
        intros
        refine cond_dec (fun hlt2 => ?_) (fun hge2 => ?_)
        · intro w5 hE5 _
          rw [wrap_of (n := (k : Int) + 1) (by omega) (by omega)]
          have e1 : ((k : Int) + 1) = ((k + 1 : Nat) : Int) := by omega
          rw [e1]
          refine (h4.ext hE5).swap hI (p := k + 1) (q := k) (by omega) (by omega) fun w7 h7 => ⟨⟨k + 1, rfl, by omega, by omega, _, h7, fun p => ?_⟩, by simp only []; omega⟩
          have hl4 := h4.len
          rw [swp_get (by omega) (by omega), hg4, hg4, hg4, ← apply_ite (gt l), ← apply_ite (gt l)]
          congr 1
          repeat' split
          all_goals omega
        · have : k = i - 1 := by omega
          subst this
          refine ⟨l4, h4, fun p q k1 k2 k3 => ?_, fun p k1 k2 => ?_, fun p hp => ?_⟩
          · rw [hg4, hg4]
            by_cases c1 : q < i - 1
            · rw [if_pos ⟨k1, by omega⟩, if_pos ⟨by omega, c1⟩]
              exact hs2 _ _ (by omega) (by omega) (by omega)
            · rw [if_neg (show ¬ (a ≤ q ∧ q < i - 1) by omega)]
              by_cases c2 : q = i - 1
              · rw [if_pos c2, if_pos ⟨k1, by omega⟩]
                exact .inl (hlo _ (by omega) (by omega))
              · rw [if_neg c2]
                by_cases c3 : p < i - 1
                · rw [if_pos ⟨k1, c3⟩]
                  exact hs2 _ _ (by omega) (by omega) k3
                · rw [if_neg (show ¬ (a ≤ p ∧ p < i - 1) by omega)]
                  by_cases c4 : p = i - 1
                  · rw [if_pos c4]
                    have := hhi q (by omega) k3
                    have := hnum a q (by omega) (by omega) (by omega) k3
                    unfold ltK; omega
                  · rw [if_neg c4]
                    exact hs2 _ _ (by omega) k2 k3
          · rw [hg4]
            exact ⟨_, by (repeat' split) <;> omega, by (repeat' split) <;> omega, rfl⟩
          · rw [hg4]
            congr 1
            repeat' split
            all_goals omega
    · -- one number on the right
      have hbm : b = m + 1 := by omega
      subst hbm
      refine ⟨fun x y w' => ∃ i j : Nat, x = i ∧ y = j ∧ a ≤ i ∧ i ≤ j ∧ j ≤ m ∧ Sd w0 base s l0 w' l ∧ (∀ p, a ≤ p → p < i → ¬ key (gt l m) < key (gt l p)) ∧ (∀ p, j ≤ p → p < m → key (gt l m) < key (gt l p)), fun x y _ => y.toNat - x.toNat,
        ⟨a, m, by omega, rfl, by omega, by omega, by omega, h, fun p h1 h2 => by omega, fun p h1 h2 => by omega⟩, ?_⟩
      rintro _ _ w1 ⟨i, j, rfl, rfl, hi, hij, hjb, h1, hlo, hhi⟩
      intros
      refine cond_dec (fun hlt => ⟨by omega, ?_⟩) (fun hge => ?_)
      · intro w2 hE2 _
        have h2 := h1.ext hE2
        rw [half_nat (by omega)]
        have hh1 : i ≤ (i + j) / 2 := by omega
        have hh2 : (i + j) / 2 < j := by omega
        generalize (i + j) / 2 = hf at *
        refine h2.ix hI (i := m) (by omega) fun p1 hc1 => LD_int hc1 ⟨Ext.refl _, h2.ix hI (i := hf) (by omega) fun p2 hc2 => ⟨Ext.refl _, LD_int hc2 ⟨Ext.refl _, ?_⟩⟩⟩
        refine callv (hc _ (h2.mem (by omega)) _ (h2.mem (by omega)) w2 h2.chg) ?_
        rintro r w3 ⟨hr, hE3⟩
        refine ⟨hE3, hE3, hE3, ?_⟩
        refine cond_not (fun hnn => ?_) (fun hneg => ?_)
        · have hk : ¬ key (gt l m) < key (gt l hf) := fun hh => by have := hr.2 hh; simp at hnn; omega
          rw [wrap_of (by omega) (by omega)]
          refine ⟨⟨hf + 1, j, by omega, rfl, by omega, by omega, hjb, h2.ext hE3, fun p k1 k2 => ?_, hhi⟩, by simp only []; omega⟩
          by_cases hp : p = hf
          · subst hp; exact hk
          · have := (hs1 p hf k1 (by omega) (by omega)).le
            omega
        · have hk := hr.1 (by simpa using hneg)
          refine ⟨⟨i, hf, rfl, rfl, hi, hh1, by omega, h2.ext hE3, hlo, fun p k1 k2 => ?_⟩, by simp only []; omega⟩
          by_cases hp : p = hf
          · subst hp; exact hk
          · have := (hs1 hf p (by omega) (by omega) k2).le
            omega
      · have : i = j := by omega
        subst this
        refine ⟨fun x w' => ∃ k : Nat, x = k ∧ i ≤ k ∧ k ≤ m ∧ ∃ l', Sd w0 base s l0 w' l' ∧ ∀ p, gt l' p = gt l (if k < p ∧ p ≤ m then p - 1 else if p = k then m else p), fun x _ => x.toNat,
          ⟨m, rfl, by omega, by omega, l, h1, fun p => by congr 1; (repeat' split) <;> omega⟩, ?_⟩
        rintro _ w4 ⟨k, rfl, hk1, hk2, l4, h4, hg4⟩
        intros
        refine cond_dec (fun hlt2 => ?_) (fun hge2 => ?_)
        · intro w5 hE5 _
          have e1 : IntKind.i64.wrap ((k : Int) - 1) = ((k - 1 : Nat) : Int) := by rw [wrap_of (by omega) (by omega)]; omega
          rw [e1]
          refine (h4.ext hE5).swap hI (p := k - 1) (q := k) (by omega) (by omega) fun w7 h7 => ⟨⟨k - 1, rfl, by omega, by omega, _, h7, fun p => ?_⟩, by simp only []; omega⟩
          have hl4 := h4.len
          rw [swp_get (by omega) (by omega), hg4, hg4, hg4, ← apply_ite (gt l), ← apply_ite (gt l)]
          congr 1
          repeat' split
          all_goals omega
        · have : k = i := by omega
          subst this
          refine ⟨l4, h4, fun p q k1 k2 k3 => ?_, fun p k1 k2 => ?_, fun p hp => ?_⟩
          · rw [hg4, hg4]
            by_cases c1 : p < k
            · rw [if_neg (show ¬ (k < p ∧ p ≤ m) by omega), if_neg (show ¬ p = k by omega)]
              by_cases c2 : q < k
              · rw [if_neg (show ¬ (k < q ∧ q ≤ m) by omega), if_neg (show ¬ q = k by omega)]
                exact hs1 _ _ k1 k2 (by omega)
              · by_cases c3 : q = k
                · rw [if_neg (show ¬ (k < q ∧ q ≤ m) by omega), if_pos c3]
                  have := hlo p k1 c1
                  have := hnum p m k1 (by omega) (by omega) (by omega)
                  unfold ltK; omega
                · rw [if_pos (show (k < q ∧ q ≤ m) by omega)]
                  exact hs1 _ _ k1 (by omega) (by omega)
            · by_cases c2 : p = k
              · rw [if_neg (show ¬ (k < p ∧ p ≤ m) by omega), if_pos c2, if_pos (show (k < q ∧ q ≤ m) by omega)]
                exact .inl (hhi _ (by omega) (by omega))
              · rw [if_pos (show (k < p ∧ p ≤ m) by omega), if_pos (show (k < q ∧ q ≤ m) by omega)]
                exact hs1 _ _ (by omega) (by omega) (by omega)
          · rw [hg4]
            exact ⟨_, by (repeat' split) <;> omega, by (repeat' split) <;> omega, rfl⟩
          · rw [hg4]
            congr 1
            repeat' split
            all_goals omega
    · -- both sides have more
      refine ⟨by omega, ?_⟩
      have hM : ∃ M, M = (a + b) / 2 := ⟨_, rfl⟩
      obtain ⟨M, hMd⟩ := hM
      have hM1 : 2 * M ≤ a + b := by omega
      have hM2 : a + b ≤ 2 * M + 1 := by omega
      have hhalf := half_nat (a := a) (b := b) (by omega)
      rw [← hMd] at hhalf
      -- the second half, the first half, behind the rotation
      have hk18 : ∀ (c e : Nat) (w' : World) (l1 l2 : List Int), c + e = M + m → m ≤ e → e ≤ b → a ≤ c → c ≤ m → Mid key l l1 a b c e M → Sd w0 base s l0 w' l2 → SIn key l2 a M → SubIn l1 l2 a M → SameOut l1 l2 a M → V_slices_symMergeCmpFunc_int_k18 s a m b cmp (fun w' => ∃ l', Sd w0 base s l0 w' l' ∧ SIn key l' a b ∧ SubIn l l' a b ∧ SameOut l l' a b) c w' := by
        intro c e w' l1 l2 hce hme heb hac hcm hMid hS2 hsort2 hsub2 hout2
        have hfin : ∀ (w3 : World) (l3 : List Int), Sd w0 base s l0 w3 l3 → SIn key l3 M b → SubIn l2 l3 M b → SameOut l2 l3 M b → ∃ l', Sd w0 base s l0 w3 l' ∧ SIn key l' a b ∧ SubIn l l' a b ∧ SameOut l l' a b := by
          intro w3 l3 hS3 hsort3 hsub3 hout3
          refine ⟨l3, hS3, fun p q k1 k2 k3 => ?_, (hMid.sub.trans (hsub2.wide hout2 (Nat.le_refl _) (by omega))).trans (hsub3.wide hout3 (by omega) (Nat.le_refl _)), (hMid.out.trans (hout2.wide (Nat.le_refl _) (by omega))).trans (hout3.wide (by omega) (Nat.le_refl _))⟩
          by_cases c1 : q < M
          · rw [hout3 p (by omega), hout3 q (by omega)]; exact hsort2 p q k1 k2 c1
          · by_cases c2 : M ≤ p
            · exact hsort3 p q c2 k2 k3
            · rw [hout3 p (by omega)]
              obtain ⟨p', e1, e2, e3⟩ := hsub2 p k1 (by omega)
              obtain ⟨q', e4, e5, e6⟩ := hsub3 q (by omega) k3
              rw [e3, e6, hout2 q' (by omega)]
              exact hMid.cross p' q' e1 e2 e4 e5
        have g2 : ∀ k, M ≤ k → gt l2 k = gt l1 k := fun k hk => hout2 k (by omega)
        have t21 : SIn key l2 M e := fun p q k1 k2 k3 => by rw [g2 p k1, g2 q (by omega)]; exact hMid.s21 p q k1 k2 k3
        have t22 : SIn key l2 e b := fun p q k1 k2 k3 => by rw [g2 p (by omega), g2 q (by omega)]; exact hMid.s22 p q k1 k2 k3
        have tn : ∀ i j, M ≤ i → i < e → e ≤ j → j < b → gt l2 i < gt l2 j := fun i j k1 k2 k3 k4 => by rw [g2 i k1, g2 j (by omega)]; exact hMid.n2 i j k1 k2 k3 k4
        unfold V_slices_symMergeCmpFunc_int_k18
        rw [hhalf, wrap_of (n := (M : Int) + m) (by omega) (by omega), wrap_of (n := (M : Int) + m - c) (by omega) (by omega)]
        have ee : (M : Int) + m - c = (e : Int) := by omega
        rw [ee]
        refine cond_dec (fun h1 => cond_dec (fun h2 => ?_) (fun h2 => hfin w' l2 hS2 ?_ (SubIn.refl _ _ _) (fun _ _ => rfl))) (fun h1 => hfin w' l2 hS2 ?_ (SubIn.refl _ _ _) (fun _ _ => rfl))
        · refine call (symMerge_ok hI hl hc d hS2 (a := M) (m := e) (b := b) (by omega) (by omega) (by omega) hb t21 t22 tn) ?_
          rintro w3 ⟨l3, h3, h4, h5, h6⟩
          exact hfin w3 l3 h3 h4 h5 h6
        · have : e = b := by omega
          rw [← this]; exact t21
        · have : M = e := by omega
          rw [this]; exact t22
      have hk16 : ∀ (c e : Nat) (w' : World) (l1 : List Int), c + e = M + m → m ≤ e → e ≤ b → a ≤ c → c ≤ m → Mid key l l1 a b c e M → Sd w0 base s l0 w' l1 → V_slices_symMergeCmpFunc_int_k16 s a m b cmp (fun w' => ∃ l', Sd w0 base s l0 w' l' ∧ SIn key l' a b ∧ SubIn l l' a b ∧ SameOut l l' a b) c w' := by
        intro c e w' l1 hce hme heb hac hcm hMid hS1
        unfold V_slices_symMergeCmpFunc_int_k16
        rw [hhalf]
        refine cond_dec (fun h1 => cond_dec (fun h2 => ?_) (fun h2 => hk18 c e w' l1 l1 hce hme heb hac hcm hMid hS1 ?_ (SubIn.refl _ _ _) (fun _ _ => rfl))) (fun h1 => hk18 c e w' l1 l1 hce hme heb hac hcm hMid hS1 ?_ (SubIn.refl _ _ _) (fun _ _ => rfl))
        · refine call (symMerge_ok hI hl hc d hS1 (a := a) (m := c) (b := M) (by omega) (by omega) (by omega) (by omega) hMid.s11 hMid.s12 hMid.n1) ?_
          rintro w2 ⟨l2, h3, h4, h5, h6⟩
          exact hk18 c e w2 l1 l2 hce hme heb hac hcm hMid h3 h4 h5 h6
        · have : c = M := by omega
          rw [← this]; exact hMid.s11
        · have : a = c := by omega
          rw [this]; exact hMid.s12
      have hk13 : ∀ (st r : Nat), a ≤ st → st ≤ r → r ≤ m → r ≤ M → M + m ≤ st + b → (st = a ∨ st + b = M + m) → (r = m ∨ r = M) → V_slices_symMergeCmpFunc_int_k13 s a m b cmp (fun w' => ∃ l', Sd w0 base s l0 w' l' ∧ SIn key l' a b ∧ SubIn l l' a b ∧ SameOut l l' a b) st r w := by
        intro st r h1 h2 h3 h4 h5 h6 h7
        unfold V_slices_symMergeCmpFunc_int_k13
        rw [hhalf, wrap_of (n := (M : Int) + m) (by omega) (by omega), wrap_of (n := (M : Int) + m - 1) (by omega) (by omega)]
        refine ⟨fun x y w' => ∃ c r' : Nat, x = c ∧ y = r' ∧ st ≤ c ∧ c ≤ r' ∧ r' ≤ r ∧ Sd w0 base s l0 w' l ∧ (∀ t, st ≤ t → t < c → ¬ key (gt l (M + m - 1 - t)) < key (gt l t)) ∧ (∀ t, r' ≤ t → t < r → key (gt l (M + m - 1 - t)) < key (gt l t)), fun x y _ => y.toNat - x.toNat,
          ⟨st, r, rfl, rfl, by omega, h2, by omega, h, fun t k1 k2 => by omega, fun t k1 k2 => by omega⟩, ?_⟩
        rintro _ _ w16 ⟨c, r', rfl, rfl, hc1, hc2, hc3, hS, hlo, hhi⟩
        intros
        refine cond_dec (fun hlt => ⟨by omega, ?_⟩) (fun hge => ?_)
        · intro w17 hE17 _
          have hS2 := hS.ext hE17
          rw [half_nat (by omega)]
          have hh1 : c ≤ (c + r') / 2 := by omega
          have hh2 : (c + r') / 2 < r' := by omega
          generalize (c + r') / 2 = hf at *
          rw [wrap_of (n := (M : Int) + m - 1 - hf) (by omega) (by omega)]
          have ei : (M : Int) + m - 1 - hf = ((M + m - 1 - hf : Nat) : Int) := by omega
          rw [ei]
          refine hS2.ix hI (i := M + m - 1 - hf) (by omega) fun p1 hcc1 => LD_int hcc1 ⟨Ext.refl _, hS2.ix hI (i := hf) (by omega) fun p2 hcc2 => ⟨Ext.refl _, LD_int hcc2 ⟨Ext.refl _, ?_⟩⟩⟩
          refine callv (hc _ (hS2.mem (by omega)) _ (hS2.mem (by omega)) w17 hS2.chg) ?_
          rintro v w18 ⟨hr, hE18⟩
          refine ⟨hE18, hE18, hE18, ?_⟩
          refine cond_not (fun hnn => ?_) (fun hneg => ?_)
          · have hk : ¬ key (gt l (M + m - 1 - hf)) < key (gt l hf) := fun hh => by have := hr.2 hh; simp at hnn; omega
            rw [wrap_of (by omega) (by omega)]
            refine ⟨⟨hf + 1, r', by omega, rfl, by omega, by omega, hc3, hS2.ext hE18, fun t k1 k2 => ?_, hhi⟩, by simp only []; omega⟩
            by_cases ht : t = hf
            · subst ht; exact hk
            · have e1 := (hs1 t hf (by omega) (by omega) (by omega)).le
              have e2 := (hs2 (M + m - 1 - hf) (M + m - 1 - t) (by omega) (by omega) (by omega)).le
              omega
          · have hk := hr.1 (by simpa using hneg)
            refine ⟨⟨c, hf, rfl, rfl, hc1, hh1, by omega, hS2.ext hE18, hlo, fun t k1 k2 => ?_⟩, by simp only []; omega⟩
            by_cases ht : t = hf
            · subst ht; exact hk
            · have e1 := (hs1 hf t (by omega) (by omega) (by omega)).le
              have e2 := (hs2 (M + m - 1 - t) (M + m - 1 - hf) (by omega) (by omega) (by omega)).le
              omega
        · have : c = r' := by omega
          subst this
          obtain ⟨e, he⟩ : ∃ e, c + e = M + m := ⟨M + m - c, by omega⟩
          have hC : Cut key l a m b c e := by
            refine ⟨by omega, by omega, by omega, by omega, fun p q k1 k2 k3 k4 => ?_, fun p q k1 k2 k3 k4 => ?_⟩
            · by_cases cs : c = st
              · omega
              · have e1 := hlo (c - 1) (by omega) (by omega)
                rw [show M + m - 1 - (c - 1) = e by omega] at e1
                have hn := hnum p q k1 (by omega) (by omega) k4
                have e2 : key (gt l p) ≤ key (gt l (c - 1)) := by
                  by_cases hp : p = c - 1
                  · rw [hp]; exact Int.le_refl _
                  · exact (hs1 p (c - 1) k1 (by omega) (by omega)).le
                have e3 : key (gt l e) ≤ key (gt l q) := by
                  by_cases hq : q = e
                  · rw [hq]; exact Int.le_refl _
                  · exact (hs2 e q (by omega) (by omega) k4).le
                unfold ltK; omega
            · by_cases cr : c = r
              · omega
              · have e1 := hhi c (by omega) (by omega)
                rw [show M + m - 1 - c = e - 1 by omega] at e1
                have e2 : key (gt l p) ≤ key (gt l (e - 1)) := by
                  by_cases hp : p = e - 1
                  · rw [hp]; exact Int.le_refl _
                  · exact (hs2 p (e - 1) k1 (by omega) (by omega)).le
                have e3 : key (gt l c) ≤ key (gt l q) := by
                  by_cases hq : q = c
                  · rw [hq]; exact Int.le_refl _
                  · exact (hs1 c q (by omega) (by omega) k4).le
                omega
          have b1 := hC.ac
          have b2 := hC.cm
          have b3 := hC.me
          have b4 := hC.eb
          rw [wrap_of (n := (M : Int) + m - c) (by omega) (by omega)]
          have ee : (M : Int) + m - c = (e : Int) := by omega
          rw [ee]
          refine cond_dec (fun j1 => cond_dec (fun j2 => ?_) (fun j2 => ?_)) (fun j1 => ?_)
          · refine call (rotate_ok hS hI hl (a := c) (m := m) (b := e) (by omega) (by omega) (by omega)) ?_
            rintro w19 ⟨l1, hS1, hg1⟩
            exact hk16 c e w19 l1 he b3 b4 b1 b2 (mid_of hs1 hs2 hnum hC he hg1) hS1
          · exact hk16 c e w16 l he b3 b4 b1 b2 (mid_of hs1 hs2 hnum hC he fun k => by rw [sig_id (.inr (by omega)) b2 b3]) hS
          · exact hk16 c e w16 l he b3 b4 b1 b2 (mid_of hs1 hs2 hnum hC he fun k => by rw [sig_id (.inl (by omega)) b2 b3]) hS
      rw [hhalf]
      refine cond_dec (fun hgt => ?_) (fun hle => ?_)
      · rw [wrap_of (n := (M : Int) + m) (by omega) (by omega), wrap_of (n := (M : Int) + m - b) (by omega) (by omega)]
        have e1 : (M : Int) + m - b = ((M + m - b : Nat) : Int) := by omega
        rw [e1]
        exact hk13 (M + m - b) M (by omega) (by omega) (by omega) (by omega) (by omega) (.inr (by omega)) (.inr rfl)
      · exact hk13 a m (by omega) (by omega) (by omega) (by omega) (by omega) (.inl rfl) (.inl rfl)

/-- Behind the first phase: two blocks at most. -/
def Two (key : Int → Int) (l0 l : List Int) : Prop := (l0.length ≤ 20 → SIn key l 0 l0.length) ∧ (20 < l0.length → SIn key l 0 20 ∧ SIn key l 20 l0.length ∧ SubIn l0 l 0 20 ∧ SubIn l0 l 20 l0.length)

theorem stable_ok (h : Sd w0 base s l0 w l0) (hI : ∀ x ∈ l0, I64 x) (hl : l0.length ≤ 40) (hc : Cmp w0 s cmp key l0) (hinc : ∀ i j, i < j → j < l0.length → gt l0 i < gt l0 j) :
    Calls Tryz.prog F.slices_stableCmpFunc_int #[s.v, .int .i64 l0.length, cmp] w (Ret [] fun w' => ∃ l', Sd w0 base s l0 w' l' ∧ SIn key l' 0 l0.length) := by
  refine C_slices_stableCmpFunc_int ?_
  unfold V_slices_stableCmpFunc_int
  refine ⟨fun a b w' => ∃ t : Nat, a = ((20 * t : Nat) : Int) ∧ b = ((20 * t + 20 : Nat) : Int) ∧ 20 * t ≤ l0.length ∧ ∃ l', Sd w0 base s l0 w' l' ∧ (∀ k, k < t → SIn key l' (20 * k) (20 * k + 20) ∧ SubIn l0 l' (20 * k) (20 * k + 20)) ∧ SameOut l0 l' 0 (20 * t), fun a _ _ => 100 - a.toNat,
    ⟨0, rfl, rfl, by omega, l0, h, fun k hk => by omega, fun _ _ => rfl⟩, ?_⟩
  rintro _ _ w1 ⟨t, rfl, rfl, ht, l1, h1, hb1, ho1⟩
  intros
  have hinc1 : ∀ c, c ≤ l0.length → ∀ i j, 20 * t ≤ i → i < j → j < c → gt l1 i < gt l1 j := fun c hc i j k1 k2 k3 => by
    rw [ho1 i (by omega), ho1 j (by omega)]; exact hinc i j k2 (by omega)
  refine cond_dec (fun hle => ?_) (fun hgt => ?_)
  · refine call (insertion_ok h1 hI (by omega) hc (a := 20 * t) (b := 20 * t + 20) (by omega) (by omega) (hinc1 _ (by omega))) ?_
    rintro w2 ⟨l2, h2, hs2, hu2, ho2⟩
    rw [wrap_of (by omega) (by omega)]
    refine ⟨⟨t + 1, by omega, by omega, by omega, l2, h2, fun k hk => ?_, fun p hp => ?_⟩, by simp only []; omega⟩
    · by_cases hkt : k = t
      · subst hkt
        refine ⟨hs2, fun p k1 k2 => ?_⟩
        obtain ⟨q, e1, e2, e3⟩ := hu2 p k1 k2
        exact ⟨q, e1, e2, by rw [e3, ho1 q (by omega)]⟩
      · obtain ⟨e1, e2⟩ := hb1 k (by omega)
        refine ⟨fun p q k1 k2 k3 => ?_, fun p k1 k2 => ?_⟩
        · rw [ho2 p (by omega), ho2 q (by omega)]; exact e1 p q k1 k2 k3
        · rw [ho2 p (by omega)]; exact e2 p k1 k2
    · rw [ho2 p (by omega), ho1 p (by omega)]
  · refine call (insertion_ok h1 hI (by omega) hc (a := 20 * t) (b := l0.length) (by omega) (Nat.le_refl _) (hinc1 _ (Nat.le_refl _))) ?_
    rintro w3 ⟨l3, h3, hs3, hu3, ho3⟩
    have hP : Two key l0 l3 := by
      have hu3' : SubIn l0 l3 (20 * t) l0.length := fun p k1 k2 => by
        obtain ⟨q, e1, e2, e3⟩ := hu3 p k1 k2
        exact ⟨q, e1, e2, by rw [e3, ho1 q (by omega)]⟩
      have hblk : ∀ k, k < t → SIn key l3 (20 * k) (20 * k + 20) ∧ SubIn l0 l3 (20 * k) (20 * k + 20) := fun k hk => by
        obtain ⟨e1, e2⟩ := hb1 k hk
        refine ⟨fun p q k1 k2 k3 => ?_, fun p k1 k2 => ?_⟩
        · rw [ho3 p (by omega), ho3 q (by omega)]; exact e1 p q k1 k2 k3
        · rw [ho3 p (by omega)]; exact e2 p k1 k2
      refine ⟨fun h20 => ?_, fun h20 => ?_⟩
      · have : t = 0 ∨ (t = 1 ∧ l0.length = 20) := by omega
        rcases this with rfl | ⟨rfl, h20'⟩
        · simpa using hs3
        · rw [h20']; simpa using (hblk 0 (by omega)).1
      · have : t = 1 ∨ (t = 2 ∧ l0.length = 40) := by omega
        rcases this with rfl | ⟨rfl, h40⟩
        · exact ⟨by simpa using (hblk 0 (by omega)).1, by simpa using hs3, by simpa using (hblk 0 (by omega)).2, by simpa using hu3'⟩
        · rw [h40]
          exact ⟨by simpa using (hblk 0 (by omega)).1, by simpa using (hblk 1 (by omega)).1, by simpa using (hblk 0 (by omega)).2, by simpa using (hblk 1 (by omega)).2⟩
    refine ⟨fun bs w' => ∃ l', Sd w0 base s l0 w' l' ∧ ((bs = 20 ∧ Two key l0 l') ∨ (bs = 40 ∧ SIn key l' 0 l0.length)), fun bs _ => 100 - bs.toNat, ⟨l3, h3, .inl ⟨rfl, hP⟩⟩, ?_⟩
    rintro bs w4 ⟨l4, h4, hcase⟩
    intros
    refine cond_dec (fun hlt => ?_) (fun hge => ?_)
    rotate_left
    · rcases hcase with ⟨rfl, hT⟩ | ⟨rfl, hs⟩
      · exact ⟨l4, h4, hT.1 (by omega)⟩
      · exact ⟨l4, h4, hs⟩
    · rcases hcase with ⟨rfl, hT⟩ | ⟨rfl, hs⟩
      rotate_left
      · omega
      have e40 : IntKind.i64.wrap (2 * 20) = 40 := by rw [wrap_of (by decide) (by decide)]; rfl
      have e40' : IntKind.i64.wrap (20 * 2) = 40 := by rw [wrap_of (by decide) (by decide)]; rfl
      rw [e40, e40']
      obtain ⟨t1, t2, t3, t4⟩ := hT.2 (by omega)
      have hnum : ∀ i j, 0 ≤ i → i < 20 → 20 ≤ j → j < l0.length → gt l4 i < gt l4 j := fun i j k1 k2 k3 k4 => by
        obtain ⟨p, e1, e2, e3⟩ := t3 i k1 k2
        obtain ⟨q, e4, e5, e6⟩ := t4 j k3 k4
        rw [e3, e6]; exact hinc p q (by omega) e5
      refine ⟨fun a b w' => ∃ l', Sd w0 base s l0 w' l' ∧ ((a = 0 ∧ b = 40 ∧ l' = l4) ∨ (a = 40 ∧ b = 80 ∧ SIn key l' 0 l0.length)), fun a _ _ => 100 - a.toNat, ⟨l4, h4, .inl ⟨rfl, rfl, rfl⟩⟩, ?_⟩
      rintro a b w5 ⟨l5, h5, hcase⟩
      intros
      rcases hcase with ⟨rfl, rfl, rfl⟩ | ⟨rfl, rfl, hs⟩
      · have e20 : IntKind.i64.wrap (0 + 20) = ((20 : Nat) : Int) := by rw [wrap_of (by decide) (by decide)]; rfl
        rw [e20]
        refine cond_dec (fun hle => ?_) (fun hgt => ?_)
        · have h40 : l0.length = 40 := by omega
          refine call (symMerge_ok hI (by omega) hc 40 h5 (a := 0) (m := 20) (b := 40) (by omega) (by omega) (by omega) (by omega) t1 (by rw [← h40]; exact t2) (fun i j k1 k2 k3 k4 => hnum i j k1 k2 k3 (by omega))) ?_
          rintro w6 ⟨l6, h6, hs6, _, _⟩
          have e80 : IntKind.i64.wrap (40 + 40) = 80 := by rw [wrap_of (by decide) (by decide)]; rfl
          rw [e80]
          exact ⟨⟨l6, h6, .inr ⟨rfl, rfl, by rw [h40]; exact hs6⟩⟩, by simp only []; omega⟩
        · refine cond_dt (by omega) ?_
          refine call (symMerge_ok hI (by omega) hc 40 h5 (a := 0) (m := 20) (b := l0.length) (by omega) (by omega) (by omega) (Nat.le_refl _) t1 t2 hnum) ?_
          rintro w6 ⟨l6, h6, hs6, _, _⟩
          exact ⟨⟨l6, h6, .inr ⟨rfl, hs6⟩⟩, by simp only []; omega⟩
      · have e60 : IntKind.i64.wrap (40 + 20) = 60 := by rw [wrap_of (by decide) (by decide)]; rfl
        rw [e60]
        refine cond_df (by omega) (cond_df (by omega) ⟨⟨l5, h5, .inr ⟨rfl, hs⟩⟩, by simp only []; omega⟩)

theorem SIn.pairwise {l : List Int} (h : SIn key l 0 l.length) : l.Pairwise (ltK key) := by
  rw [List.pairwise_iff_getElem]
  intro i j hi hj hij
  have := h i j (by omega) hij hj
  rwa [gt_get hi, gt_get hj] at this

end

/-- The stable sort of an increasing list: by the keys, those of one key in their order. -/
theorem sortStable_ok {w : World} {base : Nat} {s : Sl} {l : List Int} {cmp : Value} {key : Int → Int} (h : OwnL w base T.t_int s l) (hI : ∀ x ∈ l, I64 x) (hl : l.length ≤ 40) (hinc : l.Pairwise (· < ·))
    (hc : ∀ x ∈ l, ∀ y ∈ l, ∀ w', Chg w w' (oB s) → CALLV Tryz.prog cmp #[.int .i64 x, .int .i64 y] w' (Ret [.at (.int .i64)] fun (r : Int) w'' => (r < 0 ↔ key x < key y) ∧ Ext w' w'')) :
    Calls Tryz.prog F.slices_SortStableFunc_sl_int_int #[s.v, cmp] w (Ret [] fun w' => ∃ l', OwnL w' base T.t_int s l' ∧ Chg w w' (oB s) ∧ l'.Perm l ∧ l'.Pairwise (ltK key)) := by
  refine C_slices_SortStableFunc_sl_int_int ?_
  unfold V_slices_SortStableFunc_sl_int_int
  rw [h.1]
  refine call (stable_ok (w0 := w) (base := base) (s := s) (l0 := l) ⟨h, Chg.refl _ _, List.Perm.refl _⟩ hI hl hc fun i j hij hj => ?_) ?_
  · rw [gt_get (by omega), gt_get hj]
    exact List.pairwise_iff_getElem.1 hinc i j (by omega) hj hij
  · rintro w' ⟨l', h', hs⟩
    rw [← h'.len] at hs
    exact ⟨l', h'.own, h'.chg, h'.perm, hs.pairwise⟩

end Go.Proofs.YtlmiookpmneicaaGreat
end

section
/- Distances in a network, and the search that finds them, in plain words: no program in sight. -/
namespace Go.Proofs.YtlmiookpmneicaaGreat

/-- A walk of k steps from v to x. -/
def Reach (E : Ends) (v : Nat) : Nat → Nat → Prop
  | 0, x => x = v
  | k + 1, x => ∃ y, Reach E v k y ∧ (x : Int) ∈ adjOf E y

/-- The list of all distances from v: -1 where no walk leads. -/
structure Dists (E : Ends) (v : Nat) (D : List Int) : Prop where
  len : D.length = E.length
  low : ∀ u, -1 ≤ D.getD u (-1)
  sound : ∀ u d : Nat, D.getD u (-1) = d → Reach E v d u
  least : ∀ k x, Reach E v k x → 0 ≤ D.getD x (-1) ∧ D.getD x (-1) ≤ k

theorem Dists.eq {E : Ends} {v : Nat} {D D' : List Int} (h : Dists E v D) (h' : Dists E v D') : D = D' := by
  have key : ∀ {A B : List Int}, Dists E v A → Dists E v B → ∀ u, 0 ≤ A.getD u (-1) → 0 ≤ B.getD u (-1) ∧ B.getD u (-1) ≤ A.getD u (-1) := by
    intro A B hA hB u hu
    obtain ⟨d, hd⟩ := Int.eq_ofNat_of_zero_le hu
    have := hB.least d u (hA.sound u d hd)
    rw [hd]
    exact this
  apply List.ext_getElem (by rw [h.len, h'.len])
  intro i h1 h2
  have e1 : D.getD i (-1) = D[i] := by simp [h1]
  have e2 : D'.getD i (-1) = D'[i] := by simp [h2]
  rw [← e1, ← e2]
  have l1 := h.low i
  have l2 := h'.low i
  by_cases hu : 0 ≤ D.getD i (-1)
  · have k1 := key h h' i hu
    have k2 := key h' h i k1.1
    omega
  · by_cases hu' : 0 ≤ D'.getD i (-1)
    · have k2 := key h' h i hu'
      omega
    · omega

/-- The distance of the queue's i-th node. -/
def dv (D W : List Int) (i : Nat) : Int := D.getD (W.getD i 0).toNat (-1)

/-- The search's state: the nodes found so far, in order; their distances; how many have been looked at. -/
structure Bfs (E : Ends) (v : Nat) (W D : List Int) (k : Nat) : Prop where
  len : D.length = E.length
  le : k ≤ W.length
  nodes : ∀ x ∈ W, ∃ u : Nat, x = u ∧ u < E.length
  nodup : W.Nodup
  mem : ∀ u : Nat, u < E.length → ((u : Int) ∈ W ↔ 0 ≤ D.getD u (-1))
  root : (v : Int) ∈ W
  zero : D.getD v (-1) = 0
  low : ∀ u, -1 ≤ D.getD u (-1)
  sound : ∀ u d : Nat, D.getD u (-1) = d → Reach E v d u
  mono : ∀ i j, i ≤ j → j < W.length → dv D W i ≤ dv D W j
  cap : k < W.length → ∀ j < W.length, dv D W j ≤ dv D W k + 1
  done : ∀ i < k, ∀ u : Nat, (u : Int) ∈ adjOf E (W.getD i 0).toNat → 0 ≤ D.getD u (-1) ∧ D.getD u (-1) ≤ dv D W i + 1
  small : ∀ u, D.getD u (-1) < W.length

theorem getD_set {D : List Int} {y : Nat} (hy : y < D.length) (x : Int) (u : Nat) : (D.set y x).getD u (-1) = if u = y then x else D.getD u (-1) := by
  by_cases h : u = y
  · subst h; simp [hy]
  · simp [h, List.getElem?_set_ne (Ne.symm h)]

theorem bfs_start {E : Ends} {v : Nat} (hv : v < E.length) : Bfs E v [(v : Int)] ((List.replicate E.length (-1)).set v 0) 0 := by
  have hg : ∀ u, ((List.replicate E.length (-1 : Int)).set v 0).getD u (-1) = if u = v then 0 else -1 := by
    intro u
    rw [getD_set (by simpa using hv)]
    by_cases h : u < E.length <;> simp [h]
  refine ⟨by simp, by simp, ?_, by simp, ?_, by simp, ?_, ?_, ?_, ?_, ?_, ?_, ?_⟩
  · intro x hx
    exact ⟨v, by simpa using hx, hv⟩
  · intro u hu
    rw [hg]
    by_cases h : u = v
    · simp [h]
    · simp [h]
      omega
  · rw [hg]; simp
  · intro u; rw [hg]; split <;> omega
  · intro u d h
    rw [hg] at h
    split at h
    · obtain rfl : d = 0 := by omega
      assumption
    · omega
  · intro i j hij hj
    simp at hj
    subst hj
    obtain rfl : i = 0 := by omega
    exact Int.le_refl _
  · intro _ j hj
    simp at hj
    subst hj
    omega
  · intro i hi; omega
  · intro u; rw [hg]; simp; split <;> omega

section
variable {E : Ends} {v k : Nat} {W D : List Int}

theorem Bfs.node (h : Bfs E v W D k) {i : Nat} (hi : i < W.length) : ∃ u : Nat, W[i] = u ∧ W.getD i 0 = u ∧ u < E.length ∧ 0 ≤ D.getD u (-1) ∧ dv D W i = D.getD u (-1) := by
  obtain ⟨u, hu, hul⟩ := h.nodes W[i] (List.getElem_mem hi)
  have hg : W.getD i 0 = u := by simp [hi, hu]
  refine ⟨u, hu, hg, hul, (h.mem u hul).1 (by rw [← hu]; exact List.getElem_mem hi), ?_⟩
  unfold dv
  rw [hg]
  simp

/-- A neighbour that has been found already. -/
theorem Bfs.seen (h : Bfs E v W D k) (hk : k < W.length) {y : Nat} (hy : y < E.length) (h0 : 0 ≤ D.getD y (-1)) : D.getD y (-1) ≤ dv D W k + 1 := by
  obtain ⟨j, hj, hjy⟩ := List.mem_iff_getElem.1 ((h.mem y hy).2 h0)
  obtain ⟨u, hu, _, _, _, hd⟩ := h.node hj
  have : u = y := by rw [hjy] at hu; omega
  subst this
  rw [← hd]
  exact h.cap hk j hj

/-- A neighbour that is found now. -/
theorem Bfs.add (h : Bfs E v W D k) (hk : k < W.length) {y : Nat} (hy : y < E.length) (ha : (y : Int) ∈ adjOf E (W.getD k 0).toNat) (hn : D.getD y (-1) < 0) :
    Bfs E v (W ++ [(y : Int)]) (D.set y (dv D W k + 1)) k := by
  have hyD : y < D.length := by rw [h.len]; exact hy
  have hg := getD_set hyD (dv D W k + 1)
  obtain ⟨c, _, hck, hcl, hc0, hcd⟩ := h.node hk
  have hdk : 0 ≤ dv D W k := by omega
  have hold : ∀ i, i < W.length → (W ++ [(y : Int)]).getD i 0 = W.getD i 0 := by
    intro i hi
    simp [List.getElem?_append_left hi]
  have hnew : (W ++ [(y : Int)]).getD W.length 0 = y := by simp
  have hdo : ∀ i, i < W.length → dv (D.set y (dv D W k + 1)) (W ++ [(y : Int)]) i = dv D W i := by
    intro i hi
    obtain ⟨u, _, hu, _, hu0, hud⟩ := h.node hi
    show (D.set y (dv D W k + 1)).getD ((W ++ [(y : Int)]).getD i 0).toNat (-1) = D.getD (W.getD i 0).toNat (-1)
    rw [hold i hi, hu, hg]
    simp only [Int.toNat_natCast]
    rw [if_neg (fun he => by subst he; omega)]
  have hdn : dv (D.set y (dv D W k + 1)) (W ++ [(y : Int)]) W.length = dv D W k + 1 := by
    show (D.set y (dv D W k + 1)).getD ((W ++ [(y : Int)]).getD W.length 0).toNat (-1) = _
    rw [hnew, hg]; simp
  have hyW : (y : Int) ∉ W := fun hm => by have := (h.mem y hy).1 hm; omega
  refine ⟨by simp [h.len], by have := h.le; simp; omega, ?_, ?_, ?_, by simp [h.root], ?_, ?_, ?_, ?_, ?_, ?_, ?_⟩
  · intro x hx
    rcases List.mem_append.1 hx with h1 | h1
    · exact h.nodes x h1
    · exact ⟨y, by simpa using h1, hy⟩
  · rw [List.nodup_append]
    refine ⟨h.nodup, by simp, fun a ha b hb hab => ?_⟩
    rw [List.mem_singleton.1 hb] at hab
    subst hab
    exact hyW ha
  · intro u hu
    rw [hg, List.mem_append, h.mem u hu]
    by_cases he : u = y
    · subst he; simp; omega
    · simp [he]
      omega
  · rw [hg]
    have := h.zero
    rw [if_neg (fun he => by subst he; omega)]
    exact h.zero
  · intro u
    rw [hg]
    split
    · omega
    · exact h.low u
  · intro u d hd
    rw [hg] at hd
    split at hd
    · rename_i he
      subst he
      obtain ⟨e, he⟩ := Int.eq_ofNat_of_zero_le hdk
      obtain rfl : d = e + 1 := by omega
      refine ⟨c, h.sound c e (by rw [← hcd]; exact he), ?_⟩
      rw [hck] at ha
      simpa using ha
    · exact h.sound u d hd
  · intro i j hij hj
    simp at hj
    rcases Nat.lt_or_eq_of_le (Nat.le_of_lt_succ hj) with h1 | h1
    · rw [hdo i (by omega), hdo j h1]; exact h.mono i j hij h1
    · subst h1
      rw [hdn]
      rcases Nat.lt_or_eq_of_le hij with h2 | h2
      · rw [hdo i h2]; exact h.cap hk i h2
      · subst h2; rw [hdn]; exact Int.le_refl _
  · intro _ j hj
    simp at hj
    rw [hdo k hk]
    rcases Nat.lt_or_eq_of_le (Nat.le_of_lt_succ hj) with h1 | h1
    · rw [hdo j h1]; exact h.cap hk j h1
    · subst h1; rw [hdn]; exact Int.le_refl _
  · intro i hi u hu
    rw [hold i (by omega)] at hu
    have := h.done i hi u hu
    rw [hdo i (by omega), hg]
    rw [if_neg (fun he => by subst he; omega)]
    exact this
  · intro u
    rw [hg]
    have h1 := h.small u
    have h2 := h.small c
    simp only [List.length_append, List.length_singleton]
    push_cast
    split <;> omega

/-- What was found before stays as it is. -/
theorem Bfs.add_dv (h : Bfs E v W D k) {y : Nat} (hy : y < E.length) (x : Int) (hn : D.getD y (-1) < 0) {i : Nat} (hi : i < W.length) : dv (D.set y x) (W ++ [(y : Int)]) i = dv D W i := by
  have hyD : y < D.length := by rw [h.len]; exact hy
  obtain ⟨u, _, hu, _, hu0, hud⟩ := h.node hi
  have hold : (W ++ [(y : Int)]).getD i 0 = W.getD i 0 := by simp [List.getElem?_append_left hi]
  unfold dv
  rw [hold, hu, getD_set hyD]
  simp only [Int.toNat_natCast]
  rw [if_neg (fun he => by subst he; omega)]

/-- All neighbours have been looked at. -/
theorem Bfs.next (h : Bfs E v W D k) (hk : k < W.length) (ha : ∀ u : Nat, (u : Int) ∈ adjOf E (W.getD k 0).toNat → 0 ≤ D.getD u (-1) ∧ D.getD u (-1) ≤ dv D W k + 1) : Bfs E v W D (k + 1) :=
  { h with
    le := hk
    cap := fun hk' j hj => by
      have h1 := h.cap hk j hj
      have h2 := h.mono k (k + 1) (by omega) hk'
      omega
    done := fun i hi u hu => by
      rcases Nat.lt_or_eq_of_le (Nat.le_of_lt_succ hi) with h1 | h1
      · exact h.done i h1 u hu
      · subst h1; exact ha u hu }

theorem adj_lt {y x : Nat} (h : (x : Int) ∈ adjOf E y) : y < E.length := by
  by_cases hy : y < E.length
  · exact hy
  · unfold adjOf rowOf at h
    simp [hy] at h

theorem Bfs.end (h : Bfs E v W D W.length) : Dists E v D := by
  refine ⟨h.len, h.low, h.sound, ?_⟩
  intro j
  induction j with
  | zero =>
    intro x hx
    have hx' : x = v := hx
    subst hx'
    rw [h.zero]
    exact ⟨by omega, by omega⟩
  | succ j ih =>
    rintro x ⟨y, hy, hx⟩
    have hyl := adj_lt hx
    obtain ⟨h0, h1⟩ := ih y hy
    obtain ⟨i, hi, hiy⟩ := List.mem_iff_getElem.1 ((h.mem y hyl).2 h0)
    obtain ⟨u, hu, hug, _, _, hd⟩ := h.node hi
    obtain rfl : u = y := by rw [hiy] at hu; omega
    have := h.done i hi x (by rw [hug]; simpa using hx)
    rw [hd] at this
    refine ⟨this.1, ?_⟩
    have h2 := this.2
    push_cast
    omega

theorem nodup_length : ∀ (n : Nat) (l : List Nat), l.Nodup → (∀ x ∈ l, x < n) → l.length ≤ n
  | 0, l, _, h => by
    cases l with
    | nil => simp
    | cons x r => exact absurd (h x (by simp)) (by omega)
  | n + 1, l, hd, h => by
    have h1 := nodup_length n (l.erase n) (hd.erase n) (fun x hx => by
      have hm := (hd.mem_erase_iff).1 hx
      have := h x hm.2
      omega)
    have h2 : l.length ≤ (l.erase n).length + 1 := by
      rw [List.length_erase]
      split <;> omega
    omega

theorem Bfs.size (h : Bfs E v W D k) : W.length ≤ E.length := by
  have := nodup_length E.length (W.map Int.toNat) (by
    rw [List.nodup_iff_pairwise_ne, List.pairwise_map]
    refine (List.nodup_iff_pairwise_ne.1 h.nodup).imp_of_mem ?_
    intro a b ha hb hab he
    obtain ⟨x, rfl, _⟩ := h.nodes a ha
    obtain ⟨y, rfl, _⟩ := h.nodes b hb
    simp at he
    exact hab (by omega)) (by
    intro x hx
    obtain ⟨a, ha, rfl⟩ := List.mem_map.1 hx
    obtain ⟨u, rfl, hu⟩ := h.nodes a ha
    simpa using hu)
  simpa using this
theorem Bfs.elems (h : Bfs E v W D k) : ∀ x ∈ D, -1 ≤ x ∧ x < W.length := by
  intro x hx
  obtain ⟨i, hi, rfl⟩ := List.mem_iff_getElem.1 hx
  have e1 : D.getD i (-1) = D[i] := by simp [hi]
  rw [← e1]
  exact ⟨h.low i, h.small i⟩
end

end Go.Proofs.YtlmiookpmneicaaGreat
end

section
/- The reference's distances from a node. -/
namespace Go.Proofs.YtlmiookpmneicaaGreat
open Go.GX Go.RowKit
set_option maxRecDepth 100000

theorem own_sep {α β : Type} [Flat α] [Flat β] {w w' : World} {b1 b2 : Nat} {e e' : TypeId} {s s' : Sl} {l : List α} {l' : List β} (h : OwnL w b1 e s l) (_ : OwnL w b2 e' s' l')
    (hs : ∀ g, s.v.ownBlock = some g → s'.v.ownBlock ≠ some g) (hst : Step w w' s'.v.ownBlock) : OwnL w' b1 e s l :=
  h.keep fun k hk => hst.block k (h.blk k hk).2 (fun he => hs k hk he.symm)

/-- What the search keeps in memory: distances, queue, apart from each other. -/
structure BfsMem (w1 w' : World) (b1 b2 : Nat) (E : Ends) (v : Nat) (sD sW : Sl) (D W : List Int) (k : Nat) : Prop where
  ext : Ext w1 w'
  dist : OwnL w' b1 T.t_int sD D
  queue : OwnL w' b2 T.t_int sW W
  bfs : Bfs E v W D k
  lo1 : w1.heap.size ≤ b1
  lo12 : b1 ≤ b2
  lo2 : b2 ≤ w'.heap.size
  sep : ∀ g, sD.v.ownBlock = some g → g < b2

theorem BfsMem.next {w1 w' w'' : World} {b1 b2 : Nat} {E : Ends} {v : Nat} {sD sW : Sl} {D W : List Int} {k : Nat} (h : BfsMem w1 w' b1 b2 E v sD sW D W k) (hE : Ext w' w'') : BfsMem w1 w'' b1 b2 E v sD sW D W k :=
  { h with ext := h.ext.trans hE, dist := h.dist.ext hE, queue := h.queue.ext hE, lo2 := Nat.le_trans h.lo2 hE.size_le }

theorem ints_ok {n : Nat} {D : List Int} (h : ∀ x ∈ D, -1 ≤ x ∧ x < (n : Int)) (hn : n ≤ 1000000) : ∀ x ∈ D, Flat.ok x := fun x hx => by
  have := h x hx
  show I64 x
  unfold I64
  omega

end Go.Proofs.YtlmiookpmneicaaGreat
end

section
/- Dominating sets: both sides' tests. -/
namespace Go.Proofs.YtlmiookpmneicaaGreat
open Go.GX Go.RowKit
set_option maxRecDepth 100000

/-- The least of the distances that are not negative. -/
def FarP (D l : List Int) (m : Int) : Prop := ∀ β : Int, (0 ≤ m ∧ m ≤ β) ↔ ∃ s ∈ l, 0 ≤ D.getD s.toNat (-1) ∧ D.getD s.toNat (-1) ≤ β

theorem farP_nil (D : List Int) : FarP D [] (-1) := fun β => by
  constructor
  · rintro ⟨h, _⟩; omega
  · rintro ⟨s, hs, _⟩; cases hs

theorem farP_keep {D l : List Int} {m s : Int} (h : FarP D l m) (hs : D.getD s.toNat (-1) < 0 ∨ (0 ≤ m ∧ m ≤ D.getD s.toNat (-1))) : FarP D (l ++ [s]) m := fun β => by
  rw [h β]
  constructor
  · rintro ⟨x, hx, h1⟩
    exact ⟨x, by simp [hx], h1⟩
  · rintro ⟨x, hx, h1⟩
    rcases List.mem_append.1 hx with h2 | h2
    · exact ⟨x, h2, h1⟩
    · rw [List.mem_singleton.1 h2] at h1
      rcases hs with h3 | h3
      · omega
      · exact (h β).1 (by omega)

theorem farP_take {D l : List Int} {m s : Int} (h : FarP D l m) (h0 : 0 ≤ D.getD s.toNat (-1)) (hs : m < 0 ∨ D.getD s.toNat (-1) < m) : FarP D (l ++ [s]) (D.getD s.toNat (-1)) := fun β => by
  constructor
  · rintro h1
    exact ⟨s, by simp, h1⟩
  · rintro ⟨x, hx, h1⟩
    rcases List.mem_append.1 hx with h2 | h2
    · have := (h β).2 ⟨x, h2, h1⟩
      omega
    · rw [List.mem_singleton.1 h2] at h1
      exact h1

/-- A node of the set lies within β steps. -/
def Within (E : Ends) (l : List Int) (β : Int) (v : Nat) : Prop := ∃ s : Nat, (s : Int) ∈ l ∧ ∃ k : Nat, (k : Int) ≤ β ∧ Reach E v k s

theorem farP_within {n : Net} {l : List Int} (hS : SetOk n l) {v : Nat} {D : List Int} (hD : Dists n.ends v D) {m : Int} (hF : FarP D l m) (β : Int) : (0 ≤ m ∧ m ≤ β) ↔ Within n.ends l β v := by
  rw [hF β]
  constructor
  · rintro ⟨x, hx, h0, h1⟩
    obtain ⟨u, rfl, _⟩ := hS.node x hx
    simp only [Int.toNat_natCast] at h0 h1
    obtain ⟨d, hd⟩ := Int.eq_ofNat_of_zero_le h0
    exact ⟨u, hx, d, by omega, hD.sound u d hd⟩
  · rintro ⟨u, hu, k, hk, hr⟩
    have := hD.least k u hr
    refine ⟨u, hu, ?_⟩
    simp only [Int.toNat_natCast]
    omega

theorem within_one (E : Ends) (l : List Int) (v : Nat) (hn : ∀ x ∈ adjOf E v, ∃ u : Nat, x = u) : Within E l 1 v ↔ (v : Int) ∈ l ∨ ¬ Apart E l v := by
  constructor
  · rintro ⟨s, hs, k, hk, hr⟩
    match k, hr with
    | 0, hr => left; have hr' : s = v := hr; subst hr'; exact hs
    | 1, ⟨y, hy, hm⟩ =>
      have hy' : y = v := hy
      subst hy'
      right
      exact fun hA => hA _ hm hs
    | k + 2, _ => push_cast at hk; omega
  · rintro (h | h)
    · exact ⟨v, h, 0, by omega, rfl⟩
    · unfold Apart at h
      have h' : ∃ x, x ∈ adjOf E v ∧ x ∈ l := by
        apply Classical.byContradiction
        intro hc
        exact h (fun x hx hxl => hc ⟨x, hx, hxl⟩)
      obtain ⟨x, hx, hxl⟩ := h'
      obtain ⟨u, rfl⟩ := hn x hx
      exact ⟨u, hxl, 1, by omega, v, rfl, hx⟩

/-! ### The program's side -/

def upTo (n : Nat) : List Int := (List.range n).map fun (k : Nat) => (k : Int)

theorem upTo_len (n : Nat) : (upTo n).length = n := by simp [upTo]
theorem upTo_ok (n : Nat) (hn : n ≤ 1048576) : ∀ x ∈ upTo n, Flat.ok x := fun x hx => by
  obtain ⟨k, hk, rfl⟩ := List.mem_map.1 hx
  have := List.mem_range.1 hk
  show I64 _
  unfold I64
  omega

theorem numbersTo_ok (n : Nat) (hn : n ≤ 1048576) (w : World) :
    Calls Tryz.prog F.i_numbersTo #[.int .i64 n] w (Ret [.at .sl] fun (r : Sl) w' => Ext w w' ∧ OwnL w' w.heap.size T.t_int r (upTo n)) := by
  refine C_i_numbersTo ?_
  unfold V_i_numbersTo
  refine RUN_make (α := Int) slt_int (d := 0) rfl (by omega) (by unfold maxLen; omega) fun s w1 hE1 hO1 => ?_
  have hsl : s.len = n := by have := hO1.1; simpa using this
  rw [hsl]
  have hul := upTo_len n
  refine ⟨IN n fun i w' => Ext w w' ∧ OwnL w' w.heap.size T.t_int s ((upTo n).take i ++ List.replicate (n - i) 0), MN n, IN_zero ⟨hE1, by simpa using hO1⟩, ?_⟩
  rintro _ w2 ⟨i, rfl, hi, hE, hO⟩
  intros
  refine cond_dec (fun hlt => ?_) (fun hge => ?_)
  · have hi' : i < n := by omega
    have hfl : ((upTo n).take i ++ List.replicate (n - i) 0).length = n := by simp [hul]; omega
    refine IX_own hO (by rw [hfl]; exact hi') rfl fun q hq => ?_
    refine ST_own hO (by rw [hfl]; exact hi') hq (i : Int) rfl fun w3 hO3 hs3 => ?_
    refine IN_next (by omega) hi' ⟨hs3.ext0 hE (fun k hk => (hO.blk k hk).1), ?_⟩
    have hf := fill_step (l := upTo n) (i := i) (by rw [hul]; exact hi') 0
    have hui : (upTo n)[i]'(by rw [hul]; exact hi') = (i : Int) := by simp [upTo]
    rw [hui, hul] at hf
    rw [← hf]
    exact hO3
  · have : i = n := by omega
    subst this
    refine ⟨hE, ?_⟩
    have h1 : (upTo i).take i = upTo i := List.take_of_length_le (by rw [hul]; exact Nat.le_refl _)
    rw [h1] at hO
    simpa using hO

def DomAt (E : Ends) (l : List Int) (v : Nat) : Prop := (v : Int) ∈ l ∨ ¬ Apart E l v
def Dom (E : Ends) (l : List Int) : Prop := ∀ v < E.length, DomAt E l v

end Go.Proofs.YtlmiookpmneicaaGreat
end

section
/- Configuration maps, in plain words: no program in sight. -/
namespace Go.Proofs.YtlmiookpmneicaaGreat
open Go.GX

theorem EdgeIs.symm {p : Prob} {a b : Int} (h : EdgeIs p a b) : EdgeIs p b a := by
  unfold EdgeIs at h ⊢
  rw [sort2] at h ⊢
  by_cases h1 : a ≤ b
  · rw [if_pos h1] at h
    by_cases h2 : b ≤ a
    · have : a = b := by omega
      subst this
      rwa [if_pos h2]
    · rwa [if_neg h2]
  · rw [if_neg h1] at h
    rwa [if_pos (by omega)]

/-- The labels of configurations beside those of their rows. -/
def pairsOf (C R : List (List Int)) : List (Int × Int) := (C.zip R).flatMap fun u => u.1.zip u.2

structure CmOk (p q : Prob) (rows : List (List Int)) : Prop where
  len : rows.length = p.nodes.length
  row : ∀ r ∈ rows, (r.length : Int) = q.degree ∧ AllIn r 0 (q.labels - 1) ∧ NodeOk q r
  pairs : ∀ u ∈ pairsOf p.nodes rows, ∀ v ∈ pairsOf p.nodes rows, EdgeIs p u.1 v.1 → EdgeIs q u.2 v.2

theorem pairs_flat : ∀ {C R : List (List Int)} {d : Nat}, C.length = R.length → (∀ c ∈ C, c.length = d) → (∀ r ∈ R, r.length = d) → pairsOf C R = C.flatten.zip R.flatten
  | [], [], _, _, _, _ => rfl
  | c :: C, r :: R, d, h, hc, hr => by
    have ih := pairs_flat (C := C) (R := R) (d := d) (by simpa using h) (fun x hx => hc x (List.mem_cons_of_mem _ hx)) (fun x hx => hr x (List.mem_cons_of_mem _ hx))
    have e : c.length = r.length := by rw [hc c (by simp), hr r (by simp)]
    rw [List.flatten_cons, List.flatten_cons, List.zip_append e, ← ih]
    simp [pairsOf]

theorem mem_pairs {C R : List (List Int)} {u : Int × Int} : u ∈ pairsOf C R ↔ ∃ (x i : Nat) (hx : x < C.length) (hx' : x < R.length) (hi : i < C[x].length) (hi' : i < R[x].length), u = (C[x][i], R[x][i]) := by
  unfold pairsOf
  rw [List.mem_flatMap]
  constructor
  · rintro ⟨v, hv, hu⟩
    obtain ⟨x, hx, rfl⟩ := List.mem_iff_getElem.1 hv
    rw [List.getElem_zip] at hu
    obtain ⟨i, hi, rfl⟩ := List.mem_iff_getElem.1 hu
    simp only [List.length_zip] at hx hi
    refine ⟨x, i, by omega, by omega, by omega, by omega, ?_⟩
    rw [List.getElem_zip]
  · rintro ⟨x, i, hx, hx', hi, hi', rfl⟩
    refine ⟨(C[x], R[x]), ?_, ?_⟩
    · rw [List.mem_iff_getElem]
      exact ⟨x, by simp; omega, by rw [List.getElem_zip]⟩
    · rw [List.mem_iff_getElem]
      exact ⟨i, by simp; omega, by rw [List.getElem_zip]⟩

/-- Told by places in the flat lists, the first one not behind the second one. -/
theorem pairs_places {p q : Prob} {A B : List Int} (hl : A.length = B.length) :
    (∀ u ∈ A.zip B, ∀ v ∈ A.zip B, EdgeIs p u.1 v.1 → EdgeIs q u.2 v.2) ↔
    ∀ x (hx : x < A.length), ∀ y (hy : y < A.length), x ≤ y → EdgeIs p A[x] A[y] → EdgeIs q (B[x]'(by omega)) (B[y]'(by omega)) := by
  have hmem : ∀ x (hx : x < A.length), (A[x], B[x]'(by omega)) ∈ A.zip B := fun x hx => by
    rw [List.mem_iff_getElem]
    exact ⟨x, by simp; omega, by rw [List.getElem_zip]⟩
  constructor
  · intro h x hx y hy _ he
    exact h _ (hmem x hx) _ (hmem y hy) he
  · intro h u hu v hv he
    obtain ⟨x, hx, rfl⟩ := List.mem_iff_getElem.1 hu
    obtain ⟨y, hy, rfl⟩ := List.mem_iff_getElem.1 hv
    simp only [List.length_zip] at hx hy
    rw [List.getElem_zip, List.getElem_zip] at he ⊢
    simp only at he ⊢
    by_cases hxy : x ≤ y
    · exact h x (by omega) y (by omega) hxy he
    · exact (h y (by omega) x (by omega) (by omega) he.symm).symm

/-! ### Places -/

def keyOf (l : List Int) (x : Int) : Int := l.getD x.toNat 0

def placeOf (l : List Int) (i : Nat) : Nat := (List.range l.length).countP fun j => decide (l.getD j 0 < l.getD i 0 ∨ (l.getD j 0 = l.getD i 0 ∧ j < i))

theorem rank_pairwise {R : Int → Int → Prop} [DecidableRel R] (hi : ∀ x, ¬ R x x) (ha : ∀ x y, R x y → ¬ R y x) : ∀ {l : List Int} {k : Nat} (hk : k < l.length), l.Pairwise R → l.countP (fun x => decide (R x l[k])) = k
  | a :: l, 0, _, h => by
    rw [List.pairwise_cons] at h
    rw [List.countP_eq_zero]
    intro x hx
    simp only [List.getElem_cons_zero, decide_eq_true_eq]
    rcases List.mem_cons.1 hx with rfl | hx
    · exact hi _
    · exact ha _ _ (h.1 x hx)
  | a :: l, k + 1, hk, h => by
    rw [List.pairwise_cons] at h
    have hk' : k < l.length := by simpa using hk
    have ih := rank_pairwise hi ha hk' h.2
    have hR : R a l[k] := h.1 _ (List.getElem_mem hk')
    simp only [List.getElem_cons_succ]
    rw [List.countP_cons_of_pos (by simpa using hR), ih]

theorem place_ports {l ports : List Int} (hp : ports.Perm (upTo l.length)) (hs : ports.Pairwise (ltK (keyOf l))) {k : Nat} (hk : k < ports.length) {i : Nat} (hi : ports[k] = i) : placeOf l i = k := by
  have hd : DecidableRel (ltK (keyOf l)) := fun x y => by unfold ltK; infer_instance
  have h1 := rank_pairwise (R := ltK (keyOf l)) (fun x => by unfold ltK; omega) (fun x y => by unfold ltK; omega) hk hs
  rw [hp.countP_eq] at h1
  unfold upTo at h1
  rw [List.countP_map] at h1
  rw [← h1]
  unfold placeOf
  apply List.countP_congr
  intro j hj
  simp [ltK, keyOf, hi]

/-- The labels that a configuration map gives to a node. -/
def rowFor (C rows : List (List Int)) (l : List Int) : List Int := (List.range l.length).map fun i => (rows.getD (C.idxOf (sortI l)) []).getD (placeOf l i) 0

theorem rowFor_len (C rows : List (List Int)) (l : List Int) : (rowFor C rows l).length = l.length := by simp [rowFor]

theorem idx_of {C : List (List Int)} {size labels : Int} (h : ConfOk C size labels) {k : Nat} (hk : k < C.length) : C.idxOf C[k] = k := by
  have hm : C.idxOf C[k] < C.length := List.idxOf_lt_length_of_mem (List.getElem_mem hk)
  have he : C[C.idxOf C[k]] = C[k] := List.getElem_idxOf hm
  rcases Nat.lt_trichotomy (C.idxOf C[k]) k with h1 | h1 | h1
  · have := h.lt k _ h1 hk
    rw [he, cmpL_zero.2 rfl] at this
    omega
  · exact h1
  · have := h.lt _ k h1 hm
    rw [he, cmpL_zero.2 rfl] at this
    omega

structure McAsked (p q : Prob) (rows : List (List Int)) (n : Net) (L : List (List Int)) : Prop where
  left : PGood p
  right : PGood q
  deg : p.degree = q.degree
  map : CmOk p q rows
  good : Good n
  lab : LabOk p n.ends L
  clean : Clean p n.ends L
  full : ∀ r ∈ L, (r.length : Int) = p.degree

end Go.Proofs.YtlmiookpmneicaaGreat
end

section
/- Labelings and their first faults, both sides. -/
namespace Go.Proofs.YtlmiookpmneicaaGreat
open Go.GX Go.RowKit
set_option maxRecDepth 100000

def edgeB (p : Prob) (a b : Int) : Bool := decide (sortI [a, b] ∈ p.edges)
def nodeB (p : Prob) (l : List Int) : Bool := decide (sortI l ∈ p.nodes)
theorem edgeB_iff {p : Prob} {a b : Int} : edgeB p a b = true ↔ EdgeIs p a b := by simp [edgeB, EdgeIs]
theorem nodeB_iff {p : Prob} {l : List Int} : nodeB p l = true ↔ NodeOk p l := by simp [nodeB, NodeOk]
theorem edgeB_no {p : Prob} {a b : Int} : edgeB p a b = false ↔ ¬ EdgeIs p a b := by rw [← edgeB_iff]; simp
theorem nodeB_no {p : Prob} {l : List Int} : nodeB p l = false ↔ ¬ NodeOk p l := by rw [← nodeB_iff]; simp

theorem bool_of {x : Bool} {A : Prop} {b : Bool} (h : x = true ↔ A) (hb : b = true ↔ A) : x = b := by rw [Bool.eq_iff_iff, h, hb]

theorem hasLabels_ok {w : World} {c d t : Sl} {p : Prob} {l : List Int} (hg : 1 ≤ p.labels ∧ p.labels ≤ 8) (hl : R w t l) :
    Calls Tryz.prog F.i_Problem_hasLabels #[.agg #[.int .i64 p.labels, .int .i64 p.degree, c.v, d.v], t.v] w (Ret [.at .bool] fun (x : Bool) w' => (x = true ↔ AllIn l 0 (p.labels - 1)) ∧ Ext w w') := by
  refine C_i_Problem_hasLabels ?_
  unfold V_i_Problem_hasLabels
  refine NEW_intro fun pa w1 hp hs1 hE hb => LD_bi0 hb ?_
  rw [wrap_of (n := p.labels - 1) (by omega) (by omega)]
  refine call (allWithin_ok (hl.ext hE) 0 (p.labels - 1)) ?_
  rintro x w2 ⟨hx, hE2⟩
  exact ⟨hx, hE.trans hE2⟩

theorem badRow_ok {w : World} {c d s : Sl} {p : Prob} {pp : Addr} {t : TypeId} {L : List (List Int)} (hb1 : Box w pp t [.int .i64 p.labels, .int .i64 p.degree, c.v, d.v]) (hp : PGood p) (hl : R w s L) :
    Calls Tryz.prog F.slices_ContainsFunc_sl_sl_int_sl_int #[s.v, .func (.func F.i_isLabeling_1) #[] #[.pointer (some pp)]] w (Ret [.at .bool] fun (y : Bool) w' => (y = true ↔ ∃ r ∈ L, ¬ AllIn r 0 (p.labels - 1)) ∧ Ext w w') := by
  refine C_slices_ContainsFunc_sl_sl_int_sl_int ?_
  unfold V_slices_ContainsFunc_sl_sl_int_sl_int
  refine C_slices_IndexFunc_sl_sl_int_sl_int ?_
  unfold V_slices_IndexFunc_sl_sl_int_sl_int
  rw [hl.len]
  refine ⟨IN L.length fun i w' => Ext w w' ∧ ∀ r ∈ L.take i, AllIn r 0 (p.labels - 1), MN L.length, IN_zero ⟨Ext.refl _, by simp⟩, ?_⟩
  rintro _ w4 ⟨i, rfl, hi, hE4, hI⟩
  intros
  refine cond_dec (fun hlt => ?_) (fun hge => ?_)
  · have hi' : i < L.length := by omega
    refine (hl.ext hE4).ixL hi' fun q s1 hR1 hc => LD_sl hc ?_
    refine CALLV_mk (by kernel_rfl) ?_
    refine C_i_isLabeling_1 ?_
    unfold V_i_isLabeling_1
    refine LD_iiss (hb1.ext hE4) ?_
    refine call (hasLabels_ok hp.lab hR1.any) ?_
    rintro y w5 ⟨hy, hE5⟩
    refine cond_not (fun hf => ⟨?_, hE4.trans hE5⟩) (fun ht2 => IN_next hl.le hi' ⟨hE4.trans hE5, fun r hr => ?_⟩)
    · have e : decide ((i : Int) ≥ 0) = true := by simp
      rw [e]
      simp only [true_iff]
      exact ⟨L[i], List.getElem_mem hi', fun hA => by rw [hy.2 hA] at hf; cases hf⟩
    · rw [List.take_succ_eq_append_getElem hi'] at hr
      rcases List.mem_append.1 hr with h1 | h1
      · exact hI r h1
      · rw [List.mem_singleton.1 h1]; exact hy.1 ht2
  · have : i = L.length := by omega
    subst this
    rw [List.take_length] at hI
    refine ⟨?_, hE4⟩
    have e : decide ((-1 : Int) ≥ 0) = false := by decide
    rw [e]
    simp only [Bool.false_eq_true, false_iff]
    rintro ⟨r, hr, hn⟩
    exact hn (hI r hr)

theorem isLabeling_ok {w : World} {c d a b e s : Sl} {p : Prob} {n : Net} {L : List (List Int)} (_ : RProb w c d p) (hp : PGood p) (h : RNet w a b e n) (hl : R w s L) :
    Calls Tryz.prog F.i_isLabeling #[.agg #[.int .i64 p.labels, .int .i64 p.degree, c.v, d.v], .agg #[a.v, b.v, e.v], s.v] w (Ret [.at .bool] fun (x : Bool) w' => (x = true ↔ LabOk p n.ends L) ∧ Ext w w') := by
  refine C_i_isLabeling ?_
  unfold V_i_isLabeling
  refine NEW_intro fun pp w1 hp1 hs1 hE1 hb1 => NEW_intro fun pn w2 hp2 hs2 hE2 hb2 => LD_box3 hb2 ?_
  have hE := hE1.trans hE2
  replace h := h.ext hE
  replace hl := hl.ext hE
  replace hb1 := hb1.ext hE2
  refine call (portsOk_ok h hl) ?_
  rintro x w3 ⟨hx, hE3⟩
  replace hE := hE.ext hE3
  replace h := h.ext hE3
  replace hl := hl.ext hE3
  replace hb1 := hb1.ext hE3
  refine cond_b (fun ht => ?_) (fun hf => ⟨?_, hE⟩)
  rotate_left
  · simp only [Bool.false_eq_true, false_iff]
    intro hL
    rw [hx.2 hL.rows] at hf; cases hf
  refine call (badRow_ok hb1 hp hl) ?_
  rintro y w4 ⟨hy, hE4⟩
  refine ⟨?_, hE.trans hE4⟩
  constructor
  · intro hh
    refine ⟨hx.1 ht, fun r hr => Classical.byContradiction fun hn => ?_⟩
    have hyt := hy.2 ⟨r, hr, hn⟩
    rw [hyt] at hh; cases hh
  · intro hL
    cases hyb : y with
    | false => rfl
    | true =>
      obtain ⟨r, hr, hn⟩ := hy.1 hyb
      exact absurd (hL.labs r hr) hn

theorem prShape_ok {w : World} {c d a b e s : Sl} {p : Prob} {n : Net} {L : List (List Int)} (_ : RProb w c d p) (hp : PGood p) (h : RNet w a b e n) (hl : R w s L) :
    Calls Tryz.prog F.s_prShape #[.agg #[.int .i64 p.labels, .int .i64 p.degree, c.v, d.v], .agg #[a.v, b.v, e.v], s.v] w (Ret [.at .bool] fun (x : Bool) w' => (x = true ↔ LabOk p n.ends L) ∧ Ext w w') := by
  refine C_s_prShape ?_
  unfold V_s_prShape
  refine NEW_intro fun pp w1 hp1 hs1 hE1 hb1 => NEW_intro fun pn w2 hp2 hs2 hE2 hb2 => LD_bs0 hb2 ?_
  have hE := hE1.trans hE2
  replace h := h.ext hE
  replace hl := hl.ext hE
  replace hb1 := hb1.ext hE2
  rw [h.1.len, hl.len]
  refine cond_ne (fun hne => ⟨?_, hE⟩) (fun heq => ?_)
  · simp only [Bool.false_eq_true, false_iff]
    intro hL; have := hL.rows.1; omega
  have hlen : L.length = n.ends.length := by have heq' : ((L.length : Nat) : Int) = (n.ends.length : Nat) := heq; omega
  refine ⟨IN L.length fun i w' => w2 = w' ∧ (∀ u < i, (L.getD u []).length = (n.ends.getD u []).length) ∧ ∀ r ∈ L.take i, AllIn r 0 (p.labels - 1), MN L.length, IN_zero ⟨rfl, fun u hu => absurd hu (by omega), by simp⟩, ?_⟩
  rintro _ _ ⟨i, rfl, hi, rfl, hI1, hI2⟩
  intros
  refine cond_dec (fun hlt => ?_) (fun hge => ?_)
  rotate_left
  · have : i = L.length := by omega
    subst this
    rw [List.take_length] at hI2
    refine ⟨?_, hE⟩
    simp only [true_iff]
    exact ⟨⟨hlen, hI1⟩, hI2⟩
  have hi' : i < L.length := by omega
  have hie : i < n.ends.length := by omega
  refine hl.ixL hi' fun q s1 hR1 hc => LD_sl hc (LD_bs0 hb2 ?_)
  refine h.1.ixL hie fun q s2 hR2 hc => LD_sl hc ?_
  rw [hR1.len, hR2.len]
  refine cond_ne (fun hne => ⟨?_, hE⟩) (fun heq2 => LD_bi0 hb1 ?_)
  · simp only [Bool.false_eq_true, false_iff]
    intro hL
    have := hL.rows.2 i hi'
    rw [rowD hi', rowD hie] at this
    exact hne (by omega)
  rw [wrap_of (n := p.labels - 1) (by have := hp.lab; omega) (by have := hp.lab; omega)]
  refine call (l1All_ok hR1.any 0 (p.labels - 1)) ?_
  rintro y _ ⟨hy, rfl⟩
  refine cond_not (fun hf => ⟨?_, hE⟩) (fun ht => IN_next hl.le hi' ⟨rfl, all_succ hI1 ?_, fun r hr => ?_⟩)
  · simp only [Bool.false_eq_true, false_iff]
    intro hL
    rw [hy.2 (hL.labs _ (List.getElem_mem hi'))] at hf; cases hf
  · rw [rowD hi', rowD hie]
    have heq2' : ((L[i].length : Nat) : Int) = (n.ends[i].length : Nat) := heq2
    omega
  · rw [List.take_succ_eq_append_getElem hi'] at hr
    rcases List.mem_append.1 hr with h1 | h1
    · exact hI2 r h1
    · rw [List.mem_singleton.1 h1]; exact hy.1 ht

theorem prAsked_ok {w : World} {c d a b e s : Sl} {p : Prob} {n : Net} {L : List (List Int)} (hq : RProb w c d p) (h : RNet w a b e n) (hl : R w s L) :
    Calls Tryz.prog F.s_prAsked #[.agg #[.int .i64 p.labels, .int .i64 p.degree, c.v, d.v], .agg #[a.v, b.v, e.v], s.v] w (Ret [.at .bool] fun (x : Bool) w' => (x = true ↔ SolAsked p n L) ∧ Ext w w') := by
  refine C_s_prAsked ?_
  unfold V_s_prAsked
  refine NEW_intro fun pp w1 hp1 hs1 hE1 hb1 => NEW_intro fun pn w2 hp2 hs2 hE2 hb2 => LD_iiss (hb1.ext hE2) ?_
  have hE := hE1.trans hE2
  replace hq := hq.ext hE
  replace h := h.ext hE
  replace hl := hl.ext hE
  replace hb1 := hb1.ext hE2
  have hno : ∀ {w' : World}, Ext w w' → ¬ SolAsked p n L → (false = true ↔ SolAsked p n L) ∧ Ext w w' := fun h1 h2 => ⟨by simp [h2], h1⟩
  refine call (prGood_ok hq) ?_
  rintro x w3 ⟨hx, hE3⟩
  replace hE := hE.ext hE3
  replace hq := hq.ext hE3
  replace h := h.ext hE3
  replace hl := hl.ext hE3
  replace hb1 := hb1.ext hE3
  replace hb2 := hb2.ext hE3
  refine cond_b (fun ht => LD_box3 hb2 ?_) (fun hf => hno hE fun hA => by rw [hx.2 hA.prob] at hf; cases hf)
  refine call (neGood_ok h) ?_
  rintro y w4 ⟨hy, hE4⟩
  replace hE := hE.ext hE4
  replace hq := hq.ext hE4
  replace h := h.ext hE4
  replace hl := hl.ext hE4
  replace hb1 := hb1.ext hE4
  replace hb2 := hb2.ext hE4
  refine cond_b (fun ht2 => LD_iiss hb1 (LD_box3 hb2 ?_)) (fun hf => hno hE fun hA => by rw [hy.2 hA.good] at hf; cases hf)
  refine call (prShape_ok hq (hx.1 ht) h hl) ?_
  rintro z w5 ⟨hz, hE5⟩
  exact ⟨⟨fun hzt => ⟨hx.1 ht, hy.1 ht2, hz.1 hzt⟩, fun hA => hz.2 hA.lab⟩, hE.trans hE5⟩

/-! ### The first fault -/

structure FaultIn (p : Prob) (n : Net) (L : List (List Int)) : Prop where
  prob : PGood p
  good : Good n
  lab : LabOk p n.ends L

theorem SolAsked.fin {p : Prob} {n : Net} {L : List (List Int)} (h : SolAsked p n L) : FaultIn p n L := ⟨h.prob, h.good, h.lab⟩

theorem FaultIn.row {p : Prob} {n : Net} {L : List (List Int)} (h : FaultIn p n L) {v : Nat} (hv : v < L.length) (hve : v < n.ends.length) : L[v].length = n.ends[v].length ∧ (∀ x ∈ L[v], I64 x) ∧ L[v].length ≤ 6 := by
  have h1 := h.lab.rows.2 v hv
  rw [rowD hv, rowD hve] at h1
  have h2 := h.good.deg hve
  refine ⟨h1, fun x hx => ?_, by omega⟩
  have := h.lab.labs _ (List.getElem_mem hv) x hx
  have := h.prob.lab
  unfold I64; omega

theorem endOf_get {E : Ends} {v k : Nat} (hv : v < E.length) (hk : k < E[v].length) : endOf E v k = E[v][k] := by
  unfold endOf; rw [rowD hv]; simp [hk]

theorem portBad_iff {p : Prob} {n : Net} {L : List (List Int)} {v k : Nat} (hv : v < n.ends.length) (hk : k < n.ends[v].length) : PortBad p n.ends L v k ↔ isFirst v k n.ends[v][k] = true ∧ edgeB p (at2 L v k) (at2 L n.ends[v][k].1.toNat n.ends[v][k].2.toNat) = false := by
  unfold PortBad
  rw [endOf_get hv hk, rowD hv, edgeB_no]
  exact ⟨fun h => h.2, fun h => ⟨hk, h⟩⟩

theorem noPort_ge {p : Prob} {n : Net} {L : List (List Int)} {v : Nat} (hv : v < n.ends.length) {k : Nat} (hk : n.ends[v].length ≤ k) : ¬ PortBad p n.ends L v k := fun h => by
  have := h.1
  rw [rowD hv] at this
  omega

theorem edgeQ {w : World} {c d : Sl} {p : Prob} {a b : Int} (h : RProb w c d p) (hs : SmallP p) (hg : PGood p) (ha : I64 a) (hb : I64 b) : ∀ w', Ext w w' → Calls Tryz.prog F.i_Problem_edge #[.agg #[.int .i64 p.labels, .int .i64 p.degree, c.v, d.v], .int .i64 a, .int .i64 b] w' (Ret [.at .bool] fun (x : Bool) w'' => x = edgeB p a b ∧ Ext w' w'') := fun w' hE =>
  call (edge_ok (h.ext hE) hs hg ha hb) fun _ _ ⟨h1, h2⟩ => ⟨bool_of h1 edgeB_iff, h2⟩
theorem prEdgeQ {w : World} {c d : Sl} {p : Prob} {a b : Int} (h : RProb w c d p) (ha : I64 a) (hb : I64 b) : ∀ w', Ext w w' → Calls Tryz.prog F.s_prEdge #[.agg #[.int .i64 p.labels, .int .i64 p.degree, c.v, d.v], .int .i64 a, .int .i64 b] w' (Ret [.at .bool] fun (x : Bool) w'' => x = edgeB p a b ∧ Ext w' w'') := fun w' hE =>
  call (prEdge_ok (h.ext hE) ha hb) fun _ _ ⟨h1, h2⟩ => ⟨bool_of h1 edgeB_iff, h2⟩

theorem labelFault_k4 {w0 w3 w : World} {c d a b e s s0 : Sl} {p : Prob} {n : Net} {L : List (List Int)} {px3 px4 : Addr} {t3 t4 : TypeId} {v : Nat} {I : Int → World → Prop} {m : Int → World → Nat} {Q : Int → Int → Bool → World → Prop}
    (hq : RProb w c d p) (hs : SmallP p) (hF : FaultIn p n L) (h : RNet w a b e n) (hl : R w s L) (hb3 : Box w px3 t3 [.int .i64 p.labels, .int .i64 p.degree, c.v, d.v]) (hb4 : Box w px4 t4 [a.v, b.v, e.v]) (hE0 : Ext w0 w) (hv : v < L.length) (hve : v < n.ends.length) (hR0 : R w s0 L[v])
    (hyes : (∀ k, ¬ PortBad p n.ends L v k) → ∀ w', Ext w0 w' → I (IntKind.i64.wrap ((v : Int) + 1)) w' ∧ m (IntKind.i64.wrap ((v : Int) + 1)) w' < m v w3)
    (hno : ∀ k : Nat, PortBad p n.ends L v k → (∀ j < k, ¬ PortBad p n.ends L v j) → ∀ w', Ext w0 w' → Q v k true w') :
    V_i_labelFault_k4 I m w3 s Q px3 px4 v s0 w := by
  unfold V_i_labelFault_k4
  refine LD_bs0 hb4 ?_
  refine h.1.ixL hve fun q s2 hR2 hc => LD_sl hc ?_
  obtain ⟨hrl, hr64, hr6⟩ := hF.row hv hve
  rw [hR2.len]
  refine ⟨IN n.ends[v].length fun k w' => Ext w w' ∧ ∀ j < k, ¬ PortBad p n.ends L v j, MN n.ends[v].length, IN_zero ⟨Ext.refl _, fun j hj => absurd hj (by omega)⟩, ?_⟩
  rintro _ w6 ⟨k, rfl, hk, hE6, hI⟩
  intros
  refine cond_dec (fun hlt => ?_) (fun hge => ?_)
  rotate_left
  · have : k = n.ends[v].length := by omega
    subst this
    exact hyes (fun j => if hj : j < n.ends[v].length then hI j hj else noPort_ge hve (by omega)) _ (hE0.trans hE6)
  have hk' : k < n.ends[v].length := by omega
  have hkr : k < L[v].length := by omega
  refine (hR2.ext hE6).ixE hk' fun q _ _ hc0 hc1 => LD_int2 hc0 hc1 ?_
  refine NEW_ST (one2 _ _) rfl fun p12 w8 hp12 hE8 hb12 => ?_
  have hE68 := hE6.trans hE8
  obtain ⟨x, y, hxy, hx, hport⟩ := hF.good.far hve hk'
  obtain ⟨_, hy, _⟩ := port_some hport
  have hLl := hF.lab.rows.1
  have hxL : x < L.length := by omega
  obtain ⟨hrlx, hr64x, _⟩ := hF.row hxL hx
  have hyr : y < L[x].length := by omega
  have hbad := portBad_iff (p := p) (n := n) (L := L) hve hk'
  have ea : at2 L v k = L[v][k] := at2_get hv hkr
  have eb : at2 L n.ends[v][k].1.toNat n.ends[v][k].2.toNat = L[x][y] := by rw [hxy]; exact at2_get hxL hyr
  rw [ea, eb] at hbad
  have hgoon : ¬ PortBad p n.ends L v k → ∀ w', Ext w w' → V_i_labelFault_k7 (IN n.ends[v].length fun k w' => Ext w w' ∧ ∀ j < k, ¬ PortBad p n.ends L v j) (MN n.ends[v].length) (k : Int) w6 w' := fun hn w' hE' => by
    unfold V_i_labelFault_k7
    exact IN_next (by omega) hk' ⟨hE', all_succ hI hn⟩
  have hk8 : ∀ bb, bb = isFirst v k n.ends[v][k] → V_i_labelFault_k8 (IN n.ends[v].length fun k w' => Ext w w' ∧ ∀ j < k, ¬ PortBad p n.ends L v j) (MN n.ends[v].length) w6 s Q px3 (v : Int) s0 (k : Int) p12 bb w8 := fun bb hbb => by
    unfold V_i_labelFault_k8
    refine cond_b (fun ht => ?_) (fun hf w11 hE11 => hgoon (fun hB => ?_) _ (hE68.trans hE11))
    · refine LD_iiss (hb3.ext hE68) ?_
      refine (hR0.ext hE68).ixI hkr fun q _ hc => LD_int hc (LD_bi0 hb12 ?_)
      rw [hxy]
      refine (hl.ext hE68).ixL hxL fun q s3 hR3 hc => LD_sl hc (LD_bi1 hb12 ?_)
      rw [hxy]
      refine hR3.any.ixI hyr fun q _ hc => LD_int hc ?_
      refine QCALL_bool (edgeB p L[v][k] L[x][y]) (edgeQ (hq.ext hE68) hs hF.prob (hr64 _ (List.getElem_mem hkr)) (hr64x _ (List.getElem_mem hyr))) ?_
      intro w10 hE10
      refine cond_not (fun he => ?_) (fun he => hgoon (fun hB => ?_) _ (hE68.trans hE10))
      · exact hno k (hbad.2 ⟨by rw [← hbb]; exact ht, he⟩) hI _ (hE0.trans (hE68.trans hE10))
      · have := (hbad.1 hB).2
        rw [he] at this; cases this
    · have := (hbad.1 hB).1
      rw [← hbb, hf] at this; cases this
  refine LD_bi0 hb12 ?_
  refine cond_dec (fun h1 => hk8 true (by simp [isFirst, h1])) (fun h1 => LD_bi0 hb12 ?_)
  refine cond_eq (fun h2 => LD_bi1 hb12 (hk8 _ ?_)) (fun h2 => hk8 false (by simp [isFirst, h1, h2]))
  have h2' : (v : Int) = n.ends[v][k].1 := h2
  unfold isFirst
  rw [decide_eq_false h1, Bool.false_or, h2']
  simp

theorem labelFault_ok {w : World} {c d a b e s : Sl} {p : Prob} {n : Net} {L : List (List Int)} (hq : RProb w c d p) (hs : SmallP p) (hF : FaultIn p n L) (h : RNet w a b e n) (hl : R w s L) :
    Calls Tryz.prog F.i_labelFault #[.agg #[.int .i64 p.labels, .int .i64 p.degree, c.v, d.v], .agg #[a.v, b.v, e.v], s.v] w (Ret [.at (.int .i64), .at (.int .i64), .at .bool] fun (v i : Int) (x : Bool) w' => ((x = true ∧ FirstAt p n.ends L v i) ∨ (x = false ∧ v = 0 ∧ i = 0 ∧ Clean p n.ends L)) ∧ Ext w w') := by
  refine C_i_labelFault ?_
  unfold V_i_labelFault
  refine NEW_intro fun pp w1 hp1 hs1 hE1 hb1 => NEW_intro fun pn w2 hp2 hs2 hE2 hb2 => ?_
  have hE := hE1.trans hE2
  replace hq := hq.ext hE
  replace h := h.ext hE
  replace hl := hl.ext hE
  replace hb1 := hb1.ext hE2
  rw [hl.len]
  have hLl := hF.lab.rows.1
  have h40 := hF.good.size.2
  refine ⟨IN L.length fun v w' => Ext w2 w' ∧ ∀ u < v, NoneAt p n.ends L u, MN L.length, IN_zero ⟨Ext.refl _, fun u hu => absurd hu (by omega)⟩, ?_⟩
  rintro _ w3 ⟨v, rfl, hv, hE3, hI⟩
  intros
  refine cond_dec (fun hlt => ?_) (fun hge => ?_)
  rotate_left
  · exact ⟨.inr ⟨rfl, rfl, rfl, fun u hu => hI u (by omega)⟩, hE.trans hE3⟩
  have hv' : v < L.length := by omega
  have hve : v < n.ends.length := by omega
  obtain ⟨hrl, hr64, hr6⟩ := hF.row hv' hve
  have hrd : L.getD v [] = L[v] := rowD hv'
  refine (hl.ext hE3).ixL hv' fun q s1 hR1 hc => LD_sl hc (LD_bi1 (hb1.ext hE3) ?_)
  rw [hR1.len]
  have hk4 : ∀ w4, Ext w3 w4 → ¬ NodeBad p L v → V_i_labelFault_k4 (IN L.length fun v w' => Ext w2 w' ∧ ∀ u < v, NoneAt p n.ends L u) (MN L.length) w3 s (fun (v i : Int) (x : Bool) w' => ((x = true ∧ FirstAt p n.ends L v i) ∨ (x = false ∧ v = 0 ∧ i = 0 ∧ Clean p n.ends L)) ∧ Ext w w') pp pn (v : Int) s1 w4 := fun w4 hE4 hnb => by
    have hE34 := hE3.trans hE4
    refine labelFault_k4 (hq.ext hE34) hs hF (h.ext hE34) (hl.ext hE34) (hb1.ext hE34) (hb2.ext hE34) hE34 hv' hve (hR1.any.ext hE4) (fun hno w' hE' => IN_next (by omega) hv' ⟨hE', all_succ hI ⟨hnb, hno⟩⟩) (fun k hB hfirst w' hE' => ⟨.inl ⟨rfl, v, rfl, hve, hI, .inr ⟨k, rfl, hnb, hB, hfirst⟩⟩, hE.trans hE'⟩)
  refine cond_eq (fun heq => LD_iiss (hb1.ext hE3) ?_) (fun hne => hk4 _ (Ext.refl _) fun hB => hne (by have := hB.1; rw [hrd] at this; exact this))
  refine call (node_ok (hq.ext hE3) hs hF.prob hR1.any (by omega)) ?_
  rintro x w4 ⟨hx, hE4⟩
  refine cond_not (fun hf => ⟨.inl ⟨rfl, v, rfl, hve, hI, .inl ⟨rfl, ?_⟩⟩, hE.trans (hE3.trans hE4)⟩) (fun ht => hk4 _ hE4 fun hB => ?_)
  · refine ⟨by rw [hrd]; exact heq, fun hN => ?_⟩
    rw [hrd] at hN
    rw [hx.2 hN] at hf; cases hf
  · have := hB.2
    rw [hrd] at this
    exact this (hx.1 ht)

theorem prFault_k4 {w0 w3 w : World} {c d a b e s s0 : Sl} {p : Prob} {n : Net} {L : List (List Int)} {px3 px4 : Addr} {t3 t4 : TypeId} {v : Nat} {I : Int → World → Prop} {m : Int → World → Nat} {Q : Int → Int → World → Prop}
    (hq : RProb w c d p) (hF : FaultIn p n L) (h : RNet w a b e n) (hl : R w s L) (hb3 : Box w px3 t3 [.int .i64 p.labels, .int .i64 p.degree, c.v, d.v]) (hb4 : Box w px4 t4 [a.v, b.v, e.v]) (hE0 : Ext w0 w) (hv : v < L.length) (hve : v < n.ends.length) (hR2 : R w s0 n.ends[v])
    (hyes : (∀ k, ¬ PortBad p n.ends L v k) → ∀ w', Ext w0 w' → I (IntKind.i64.wrap ((v : Int) + 1)) w' ∧ m (IntKind.i64.wrap ((v : Int) + 1)) w' < m v w3)
    (hno : ∀ k : Nat, PortBad p n.ends L v k → (∀ j < k, ¬ PortBad p n.ends L v j) → ∀ w', Ext w0 w' → Q v k w') :
    V_s_prFault_k4 I m w3 s Q px3 px4 v s0 w := by
  unfold V_s_prFault_k4
  obtain ⟨hrl, hr64, hr6⟩ := hF.row hv hve
  rw [hR2.len]
  refine ⟨IN n.ends[v].length fun k w' => Ext w w' ∧ ∀ j < k, ¬ PortBad p n.ends L v j, MN n.ends[v].length, IN_zero ⟨Ext.refl _, fun j hj => absurd hj (by omega)⟩, ?_⟩
  rintro _ w6 ⟨k, rfl, hk, hE6, hI⟩
  intros
  refine cond_dec (fun hlt => ?_) (fun hge => ?_)
  rotate_left
  · have : k = n.ends[v].length := by omega
    subst this
    exact hyes (fun j => if hj : j < n.ends[v].length then hI j hj else noPort_ge hve (by omega)) _ (hE0.trans hE6)
  have hk' : k < n.ends[v].length := by omega
  have hkr : k < L[v].length := by omega
  refine (hR2.ext hE6).ixE hk' fun q _ _ hc0 hc1 => LD_int2 hc0 hc1 ?_
  refine NEW_ST (one2 _ _) rfl fun p12 w8 hp12 hE8 hb12 => ?_
  have hE68 := hE6.trans hE8
  obtain ⟨x, y, hxy, hx, hport⟩ := hF.good.far hve hk'
  obtain ⟨_, hy, _⟩ := port_some hport
  have hLl := hF.lab.rows.1
  have hxL : x < L.length := by omega
  obtain ⟨hrlx, hr64x, _⟩ := hF.row hxL hx
  have hyr : y < L[x].length := by omega
  have hbad := portBad_iff (p := p) (n := n) (L := L) hve hk'
  have ea : at2 L v k = L[v][k] := at2_get hv hkr
  have eb : at2 L n.ends[v][k].1.toNat n.ends[v][k].2.toNat = L[x][y] := by rw [hxy]; exact at2_get hxL hyr
  rw [ea, eb] at hbad
  refine LD_box3 (hb4.ext hE68) ?_
  refine QCALL_bool (isFirst v k n.ends[v][k]) (fun w' hE' => neFirst_ok ((h.ext hE68).ext hE') hve hk') ?_
  refine cond_b (fun ht => ?_) (fun hf w11 hE11 => IN_next (by omega) hk' ⟨hE68.trans hE11, all_succ hI fun hB => by rw [(hbad.1 hB).1] at hf; cases hf⟩)
  refine LD_iiss (hb3.ext hE68) ?_
  refine (hl.ext hE68).ixL hv fun q s4 hR4 hc => LD_sl hc ?_
  refine hR4.any.ixI hkr fun q _ hc => LD_int hc (LD_bi0 hb12 ?_)
  rw [hxy]
  refine (hl.ext hE68).ixL hxL fun q s3 hR3 hc => LD_sl hc (LD_bi1 hb12 ?_)
  rw [hxy]
  refine hR3.any.ixI hyr fun q _ hc => LD_int hc ?_
  refine QCALL_bool (edgeB p L[v][k] L[x][y]) (prEdgeQ (hq.ext hE68) (hr64 _ (List.getElem_mem hkr)) (hr64x _ (List.getElem_mem hyr))) ?_
  intro w10 hE10
  refine cond_not (fun he => ?_) (fun he => IN_next (by omega) hk' ⟨hE68.trans hE10, all_succ hI fun hB => by have := (hbad.1 hB).2; rw [he] at this; cases this⟩)
  exact hno k (hbad.2 ⟨ht, he⟩) hI _ (hE0.trans (hE68.trans hE10))

theorem prFault_ok {w : World} {c d a b e s : Sl} {p : Prob} {n : Net} {L : List (List Int)} (hq : RProb w c d p) (hF : FaultIn p n L) (h : RNet w a b e n) (hl : R w s L) :
    Calls Tryz.prog F.s_prFault #[.agg #[.int .i64 p.labels, .int .i64 p.degree, c.v, d.v], .agg #[a.v, b.v, e.v], s.v] w (Ret [.at (.int .i64), .at (.int .i64)] fun (v i : Int) w' => (FirstAt p n.ends L v i ∨ (v = -1 ∧ i = -1 ∧ Clean p n.ends L)) ∧ Ext w w') := by
  refine C_s_prFault ?_
  unfold V_s_prFault
  refine NEW_intro fun pp w1 hp1 hs1 hE1 hb1 => NEW_intro fun pn w2 hp2 hs2 hE2 hb2 => LD_bs0 hb2 ?_
  have hE := hE1.trans hE2
  replace hq := hq.ext hE
  replace h := h.ext hE
  replace hl := hl.ext hE
  replace hb1 := hb1.ext hE2
  rw [h.1.len]
  have hLl := hF.lab.rows.1
  have h40 := hF.good.size.2
  refine ⟨IN n.ends.length fun v w' => Ext w2 w' ∧ ∀ u < v, NoneAt p n.ends L u, MN n.ends.length, IN_zero ⟨Ext.refl _, fun u hu => absurd hu (by omega)⟩, ?_⟩
  rintro _ w3 ⟨v, rfl, hv, hE3, hI⟩
  intros
  refine cond_dec (fun hlt => ?_) (fun hge => ?_)
  rotate_left
  · exact ⟨.inr ⟨rfl, rfl, fun u hu => hI u (by omega)⟩, hE.trans hE3⟩
  have hve : v < n.ends.length := by omega
  have hv' : v < L.length := by omega
  obtain ⟨hrl, hr64, hr6⟩ := hF.row hv' hve
  have hrd : L.getD v [] = L[v] := rowD hv'
  refine (h.ext hE3).1.ixL hve fun q s1 hR1 hc => LD_sl hc (LD_bi1 (hb1.ext hE3) ?_)
  rw [hR1.len]
  have hk4 : ∀ w4, Ext w3 w4 → ¬ NodeBad p L v → V_s_prFault_k4 (IN n.ends.length fun v w' => Ext w2 w' ∧ ∀ u < v, NoneAt p n.ends L u) (MN n.ends.length) w3 s (fun (v i : Int) w' => (FirstAt p n.ends L v i ∨ (v = -1 ∧ i = -1 ∧ Clean p n.ends L)) ∧ Ext w w') pp pn (v : Int) s1 w4 := fun w4 hE4 hnb => by
    have hE34 := hE3.trans hE4
    refine prFault_k4 (hq.ext hE34) hF (h.ext hE34) (hl.ext hE34) (hb1.ext hE34) (hb2.ext hE34) hE34 hv' hve (hR1.any.ext hE4) (fun hno w' hE' => IN_next (by omega) hve ⟨hE', all_succ hI ⟨hnb, hno⟩⟩) (fun k hB hfirst w' hE' => ⟨.inl ⟨v, rfl, hve, hI, .inr ⟨k, rfl, hnb, hB, hfirst⟩⟩, hE.trans hE'⟩)
  refine cond_eq (fun heq => LD_iiss (hb1.ext hE3) ?_) (fun hne w5 hE5 => hk4 _ hE5 fun hB => hne (by have := hB.1; rw [hrd, hrl] at this; exact this))
  refine (hl.ext hE3).ixL hv' fun q s4 hR4 hc => LD_sl hc ?_
  refine QCALL_bool (nodeB p L[v]) (fun w' hE' => call (prNode_ok ((hq.ext hE3).ext hE') (hR4.any.ext hE') (by omega)) fun _ _ ⟨h1, h2⟩ => ⟨bool_of h1 nodeB_iff, h2⟩) ?_
  intro w4 hE4
  refine cond_not (fun hf => ⟨.inl ⟨v, rfl, hve, hI, .inl ⟨rfl, ?_⟩⟩, hE.trans (hE3.trans hE4)⟩) (fun ht => hk4 _ hE4 fun hB => ?_)
  · refine ⟨by rw [hrd, hrl]; exact heq, ?_⟩
    rw [hrd]; exact nodeB_no.1 hf
  · have := hB.2
    rw [hrd] at this
    exact this (nodeB_iff.1 ht)

/-! ### The statements' answers -/

theorem prIs_ok {w : World} {c d a b e s : Sl} {p : Prob} {n : Net} {L : List (List Int)} (hq : RProb w c d p) (hF : FaultIn p n L) (h : RNet w a b e n) (hl : R w s L) :
    Calls Tryz.prog F.s_prIs #[.agg #[.int .i64 p.labels, .int .i64 p.degree, c.v, d.v], .agg #[a.v, b.v, e.v], s.v] w (Ret [.at .bool] fun (x : Bool) w' => (x = true ↔ Clean p n.ends L) ∧ Ext w w') := by
  refine C_s_prIs ?_
  unfold V_s_prIs
  refine NEW_intro fun pp w1 hp1 hs1 hE1 hb1 => NEW_intro fun pn w2 hp2 hs2 hE2 hb2 => LD_iiss (hb1.ext hE2) (LD_box3 hb2 ?_)
  have hE := hE1.trans hE2
  replace hq := hq.ext hE
  replace h := h.ext hE
  replace hl := hl.ext hE
  refine call (prFault_ok hq hF h hl) ?_
  rintro v i w3 ⟨hf, hE3⟩
  refine ⟨?_, hE.trans hE3⟩
  rw [decide_eq_true_eq]
  rcases hf with hfa | ⟨rfl, rfl, hcl⟩
  · constructor
    · intro hneg
      obtain ⟨m, rfl, _⟩ := hfa
      omega
    · intro hcl; exact absurd hcl hfa.bad
  · exact ⟨fun _ => hcl, fun _ => by omega⟩

end Go.Proofs.YtlmiookpmneicaaGreat
end

section
/- Label maps, both sides. -/
namespace Go.Proofs.YtlmiookpmneicaaGreat
open Go.GX Go.RowKit
set_option maxRecDepth 100000

theorem img_len (f l : List Int) : (img f l).length = l.length := by simp [img]
theorem img_I64 {f l : List Int} (hf : ∀ x ∈ f, I64 x) : ∀ x ∈ img f l, I64 x := by
  intro x hx
  obtain ⟨a, _, rfl⟩ := List.mem_map.1 hx
  by_cases h : a.toNat < f.length
  · simp [h]; exact hf _ (List.getElem_mem h)
  · rw [List.getD_eq_getElem?_getD, List.getElem?_eq_none (by omega)]; show I64 0; unfold I64; omega

theorem in_map {f : List Int} {p : Prob} (hl : (f.length : Int) = p.labels) {c : List Int} (hc : AllIn c 0 (p.labels - 1)) : ∀ x ∈ c, ∃ u : Nat, x = u ∧ u < f.length := fun x hx => by
  have := hc x hx
  exact ⟨x.toNat, by omega, by omega⟩

theorem images_ok {w : World} {s t : Sl} {f m : List Int} (hm : R w s m) (hf : R w t f) (hin : ∀ x ∈ m, ∃ u : Nat, x = u ∧ u < f.length) (hml : m.length ≤ 1048576) :
    Calls Tryz.prog F.i_images #[s.v, t.v] w (Ret [.at .sl] fun (r : Sl) w' => Ext w w' ∧ OwnL w' w.heap.size T.t_int r (img f m)) := by
  refine C_i_images ?_
  unfold V_i_images
  rw [hm.len]
  refine ⟨IN2 m.length fun i out w' => Ext w w' ∧ OwnL w' w.heap.size T.t_int out (img f (m.take i)), MN2 m.length, IN2_zero ⟨Ext.refl _, by simpa [img] using OwnL.nil _ _ _⟩, ?_⟩
  rintro out _ w2 ⟨i, rfl, hi, hE, hO⟩
  intros
  replace hf := hf.ext hE
  replace hm := hm.ext hE
  refine cond_dec (fun hlt => ?_) (fun hge => ?_)
  · have hi' : i < m.length := by omega
    refine hm.ixI hi' fun q _ hc => LD_int hc ?_
    obtain ⟨u, hu, hul⟩ := hin _ (List.getElem_mem hi')
    rw [hu]
    refine hf.ixI hul fun q h64 hc => LD_int hc ?_
    refine RUN_lit1 (α := Int) slt_int f[u] rfl (by decide) fun r w5 hE5 hO5 => ?_
    replace hE := hE.ext hE5
    replace hO := hO.ext hE5
    refine RUN_append (α := Int) slt_int hO hE.size_le (hO5.rep (by intro z hz; simp at hz; subst hz; exact h64)).any (by simp [img_len]; omega) (by simp [img_len, maxLen]; omega) fun r' w6 hO6 hs6 => ?_
    refine IN2_next hm.le hi' ⟨hs6.ext0 hE (fun k hk => (hO.blk k hk).1), ?_⟩
    unfold img at hO6 ⊢
    rw [map_take_succ hi', hu]
    simpa [hul] using hO6
  · have : i = m.length := by omega
    subst this
    exact ⟨hE, by simpa using hO⟩

theorem throughI_ok {w : World} {s t : Sl} {f m : List Int} (hf : R w s f) (hm : R w t m) (hin : ∀ x ∈ m, ∃ u : Nat, x = u ∧ u < f.length) (hml : m.length ≤ 1048576) :
    Calls Tryz.prog F.s_coThrough #[s.v, t.v] w (Ret [.at .sl] fun (r : Sl) w' => Ext w w' ∧ OwnL w' w.heap.size T.t_int r (img f m)) := coThrough_ok hf hm hin hml

/-! ### Two problems -/

def TwoOk (p q : Prob) : Prop := PGood p ∧ PGood q ∧ p.degree = q.degree

theorem areProblems_ok {w : World} {c d c' d' : Sl} {p q : Prob} (h : RProb w c d p) (h' : RProb w c' d' q) :
    Calls Tryz.prog F.i_areProblems #[.agg #[.int .i64 p.labels, .int .i64 p.degree, c.v, d.v], .agg #[.int .i64 q.labels, .int .i64 q.degree, c'.v, d'.v]] w (Ret [.at .bool] fun (x : Bool) w' => (x = true ↔ TwoOk p q) ∧ Ext w w') := by
  refine C_i_areProblems ?_
  unfold V_i_areProblems
  refine NEW_intro fun pp w1 hp1 hs1 hE1 hb1 => NEW_intro fun pq w2 hp2 hs2 hE2 hb2 => LD_iiss (hb1.ext hE2) ?_
  have hE := hE1.trans hE2
  replace h := h.ext hE
  replace h' := h'.ext hE
  replace hb1 := hb1.ext hE2
  have hno : ∀ {w' : World}, Ext w w' → ¬ TwoOk p q → (false = true ↔ TwoOk p q) ∧ Ext w w' := fun h1 h2 => ⟨by simp [h2], h1⟩
  refine call (IsProblem_ok h) ?_
  rintro x w3 ⟨hx, hE3⟩
  replace hE := hE.ext hE3
  replace h := h.ext hE3
  replace h' := h'.ext hE3
  replace hb1 := hb1.ext hE3
  replace hb2 := hb2.ext hE3
  refine cond_b (fun ht => LD_iiss hb2 ?_) (fun hf => hno hE fun hA => by rw [hx.2 hA.1] at hf; cases hf)
  refine call (IsProblem_ok h') ?_
  rintro y w4 ⟨hy, hE4⟩
  replace hE := hE.ext hE4
  replace h := h.ext hE4
  replace h' := h'.ext hE4
  replace hb1 := hb1.ext hE4
  replace hb2 := hb2.ext hE4
  refine cond_b (fun ht2 => LD_bi1 hb1 (LD_bi1 hb2 ⟨?_, hE⟩)) (fun hf => hno hE fun hA => by rw [hy.2 hA.2.1] at hf; cases hf)
  rw [beq_iff_eq]
  exact ⟨fun he => ⟨hx.1 ht, hy.1 ht2, he⟩, fun hA => hA.2.2⟩


theorem reTwo_ok {w : World} {c d c' d' : Sl} {p q : Prob} (h : RProb w c d p) (h' : RProb w c' d' q) :
    Calls Tryz.prog F.s_reTwo #[.agg #[.int .i64 p.labels, .int .i64 p.degree, c.v, d.v], .agg #[.int .i64 q.labels, .int .i64 q.degree, c'.v, d'.v]] w (Ret [.at .bool] fun (x : Bool) w' => (x = true ↔ TwoOk p q) ∧ Ext w w') := by
  refine C_s_reTwo ?_
  unfold V_s_reTwo
  refine NEW_intro fun pp w1 hp1 hs1 hE1 hb1 => NEW_intro fun pq w2 hp2 hs2 hE2 hb2 => LD_iiss (hb1.ext hE2) ?_
  have hE := hE1.trans hE2
  replace h := h.ext hE
  replace h' := h'.ext hE
  replace hb1 := hb1.ext hE2
  have hno : ∀ {w' : World}, Ext w w' → ¬ TwoOk p q → (false = true ↔ TwoOk p q) ∧ Ext w w' := fun h1 h2 => ⟨by simp [h2], h1⟩
  refine call (prGood_ok h) ?_
  rintro x w3 ⟨hx, hE3⟩
  replace hE := hE.ext hE3
  replace h := h.ext hE3
  replace h' := h'.ext hE3
  replace hb1 := hb1.ext hE3
  replace hb2 := hb2.ext hE3
  refine cond_b (fun ht => LD_iiss hb2 ?_) (fun hf => hno hE fun hA => by rw [hx.2 hA.1] at hf; cases hf)
  refine call (prGood_ok h') ?_
  rintro y w4 ⟨hy, hE4⟩
  replace hE := hE.ext hE4
  replace h := h.ext hE4
  replace h' := h'.ext hE4
  replace hb1 := hb1.ext hE4
  replace hb2 := hb2.ext hE4
  refine cond_b (fun ht2 => LD_bi1 hb1 (LD_bi1 hb2 ⟨?_, hE⟩)) (fun hf => hno hE fun hA => by rw [hy.2 hA.2.1] at hf; cases hf)
  rw [beq_iff_eq]
  exact ⟨fun he => ⟨hx.1 ht, hy.1 ht2, he⟩, fun hA => hA.2.2⟩


/-! ### Whether it is a label map: the program -/

theorem confRow {L : List (List Int)} {size labels : Int} (h : ConfOk L size labels) {c : List Int} (hc : c ∈ L) : (c.length : Int) = size ∧ AllIn c 0 (labels - 1) := by
  obtain ⟨i, hi, rfl⟩ := List.mem_iff_getElem.1 hc
  exact ⟨(h.row i hi).1, (h.row i hi).2.2⟩

theorem badEdge_ok {w : World} {c' d' s : Sl} {p q : Prob} {pq pf : Addr} {t1 t2 : TypeId} {f : List Int} {fs : Sl} (h' : RProb w c' d' q) (hb2 : Box w pq t1 [.int .i64 q.labels, .int .i64 q.degree, c'.v, d'.v]) (hbf : Box w pf t2 [fs.v]) (hf : R w fs f) (hp : PGood p) (hq : PGood q) (hsq : SmallP q) (hfl : (f.length : Int) = p.labels) (hl : R w s p.edges) :
    Calls Tryz.prog F.slices_ContainsFunc_sl_sl_int_sl_int #[s.v, .func (.func F.i_isLabelMap_1) #[] #[.pointer (some pq), .pointer (some pf)]] w (Ret [.at .bool] fun (y : Bool) w' => (y = true ↔ ∃ r ∈ p.edges, sortI (img f r) ∉ q.edges) ∧ Ext w w') := by
  refine C_slices_ContainsFunc_sl_sl_int_sl_int ?_
  unfold V_slices_ContainsFunc_sl_sl_int_sl_int
  refine C_slices_IndexFunc_sl_sl_int_sl_int ?_
  unfold V_slices_IndexFunc_sl_sl_int_sl_int
  rw [hl.len]
  refine ⟨IN p.edges.length fun i w' => Ext w w' ∧ ∀ r ∈ p.edges.take i, sortI (img f r) ∈ q.edges, MN p.edges.length, IN_zero ⟨Ext.refl _, by simp⟩, ?_⟩
  rintro _ w4 ⟨i, rfl, hi, hE4, hI⟩
  intros
  have hf64 := flat_ok hf
  refine cond_dec (fun hlt => ?_) (fun hge => ?_)
  · have hi' : i < p.edges.length := by omega
    obtain ⟨hr2, hrA⟩ := confRow hp.edges (List.getElem_mem hi')
    have hr2' : p.edges[i].length = 2 := by omega
    obtain ⟨u0, hu0, hul0⟩ := in_map hfl hrA (p.edges[i][0]'(by omega)) (List.getElem_mem _)
    obtain ⟨u1, hu1, hul1⟩ := in_map hfl hrA (p.edges[i][1]'(by omega)) (List.getElem_mem _)
    have himg : img f p.edges[i] = [f[u0], f[u1]] := by
      rw [img2 hr2', hu0, hu1]; simp [hul0, hul1]
    refine (hl.ext hE4).ixL hi' fun q0 s1 hR1 hc => LD_sl hc ?_
    refine CALLV_mk (by kernel_rfl) ?_
    refine C_i_isLabelMap_1 ?_
    unfold V_i_isLabelMap_1
    refine LD_iiss (hb2.ext hE4) (LD_bs (hbf.ext hE4) ?_)
    refine hR1.any.ixI (i := 0) (by omega) fun q1 _ hc => LD_int hc ?_
    rw [hu0]
    refine (hf.ext hE4).ixI hul0 fun q2 _ hc => LD_int hc (LD_bs (hbf.ext hE4) ?_)
    refine hR1.any.ixI (i := 1) (by omega) fun q3 _ hc => LD_int hc ?_
    rw [hu1]
    refine (hf.ext hE4).ixI hul1 fun q4 _ hc => LD_int hc ?_
    refine QCALL_bool (edgeB q f[u0] f[u1]) (edgeQ (h'.ext hE4) hsq hq (hf64 _ (List.getElem_mem hul0)) (hf64 _ (List.getElem_mem hul1))) ?_
    intro w5 hE5
    have hed : edgeB q f[u0] f[u1] = true ↔ sortI (img f p.edges[i]) ∈ q.edges := by rw [edgeB_iff, himg]; rfl
    refine cond_not (fun hfa => ⟨?_, hE4.trans hE5⟩) (fun htr => IN_next hl.le hi' ⟨hE4.trans hE5, fun r hr => ?_⟩)
    · have e : decide ((i : Int) ≥ 0) = true := by simp
      rw [e]
      simp only [true_iff]
      exact ⟨p.edges[i], List.getElem_mem hi', fun hA => by rw [hed.2 hA] at hfa; cases hfa⟩
    · rw [List.take_succ_eq_append_getElem hi'] at hr
      rcases List.mem_append.1 hr with h1 | h1
      · exact hI r h1
      · rw [List.mem_singleton.1 h1]; exact hed.1 htr
  · have : i = p.edges.length := by omega
    subst this
    rw [List.take_length] at hI
    refine ⟨?_, hE4⟩
    have e : decide ((-1 : Int) ≥ 0) = false := by decide
    rw [e]
    simp only [Bool.false_eq_true, false_iff]
    rintro ⟨r, hr, hn⟩
    exact hn (hI r hr)

theorem isLabelMap_ok {w : World} {c d c' d' fs : Sl} {p q : Prob} {f : List Int} (h : RProb w c d p) (h' : RProb w c' d' q) (hp : PGood p) (hq : PGood q) (hsp : SmallP p) (hsq : SmallP q) (hf : R w fs f) :
    Calls Tryz.prog F.i_isLabelMap #[.agg #[.int .i64 p.labels, .int .i64 p.degree, c.v, d.v], .agg #[.int .i64 q.labels, .int .i64 q.degree, c'.v, d'.v], fs.v] w (Ret [.at .bool] fun (x : Bool) w' => (x = true ↔ MapOk p q f) ∧ Ext w w') := by
  refine C_i_isLabelMap ?_
  unfold V_i_isLabelMap
  refine NEW_intro fun pp w1 hp1 hs1 hE1 hb1 => NEW_intro fun pq w2 hp2 hs2 hE2 hb2 => NEW_intro fun pf w3 hp3 hs3 hE3 hbf => LD_bs hbf ?_
  have hE := (hE1.trans hE2).trans hE3
  replace h := h.ext hE
  replace h' := h'.ext hE
  replace hf := hf.ext hE
  replace hb1 := hb1.ext hE2
  replace hb1 := hb1.ext hE3
  replace hb2 := hb2.ext hE3
  have hno : ∀ {w' : World}, Ext w w' → ¬ MapOk p q f → (false = true ↔ MapOk p q f) ∧ Ext w w' := fun h1 h2 => ⟨by simp [h2], h1⟩
  refine LD_bi0 hb1 ?_
  rw [hf.len]
  refine cond_ne (fun hne => hno hE fun hM => hne hM.len) (fun heq => LD_iiss hb2 (LD_bs hbf ?_))
  have hfl : (f.length : Int) = p.labels := heq
  refine call (hasLabels_ok hq.lab hf) ?_
  rintro x w4 ⟨hx, hE4⟩
  replace hE := hE.ext hE4
  replace h := h.ext hE4
  replace h' := h'.ext hE4
  replace hf := hf.ext hE4
  replace hb1 := hb1.ext hE4
  replace hb2 := hb2.ext hE4
  replace hbf := hbf.ext hE4
  refine cond_not (fun hfa => hno hE fun hM => by rw [hx.2 hM.labs] at hfa; cases hfa) (fun ht => ?_)
  unfold V_i_isLabelMap_k1
  refine LD_bs2 hb1 ?_
  rw [h.nodes.len]
  have hd := hp.deg
  refine ⟨IN p.nodes.length fun i w' => Ext w4 w' ∧ ∀ r ∈ p.nodes.take i, sortI (img f r) ∈ q.nodes, MN p.nodes.length, IN_zero ⟨Ext.refl _, by simp⟩, ?_⟩
  rintro _ w6 ⟨i, rfl, hi, hE6, hI⟩
  intros
  refine cond_dec (fun hlt => ?_) (fun hge => ?_)
  · have hi' : i < p.nodes.length := by omega
    obtain ⟨hrl, hrA⟩ := confRow hp.nodes (List.getElem_mem hi')
    refine (h.nodes.ext hE6).ixL hi' fun q0 s1 hR1 hc => LD_sl hc ?_
    intro w7 hE7 _
    have hE67 := hE6.trans hE7
    refine LD_iiss (hb2.ext hE67) (LD_bs (hbf.ext hE67) ⟨Ext.refl _, ?_⟩)
    refine call (images_ok (hR1.any.ext hE7) (hf.ext hE67) (in_map hfl hrA) (by omega)) ?_
    rintro r8 w8 ⟨hE8, hO8⟩
    refine ⟨hE8, ?_⟩
    refine call (node_ok ((h'.ext hE67).ext hE8) hsq hq (hO8.rep (img_I64 (flat_ok hf))).any (by rw [img_len]; omega)) ?_
    rintro y w9 ⟨hy, hE9⟩
    have hE79 := hE8.trans hE9
    refine ⟨hE79, hE79, ?_⟩
    refine cond_not (fun hfa => hno (hE.trans (hE67.trans hE79)) fun hM => by rw [hy.2 (hM.nodes _ (List.getElem_mem hi'))] at hfa; cases hfa) (fun ht2 => IN_next (by have := hsp.1.1; omega) hi' ⟨hE67.trans hE79, fun r hr => ?_⟩)
    rw [List.take_succ_eq_append_getElem hi'] at hr
    rcases List.mem_append.1 hr with h1 | h1
    · exact hI r h1
    · rw [List.mem_singleton.1 h1]; exact hy.1 ht2
  · have : i = p.nodes.length := by omega
    subst this
    rw [List.take_length] at hI
    refine LD_bs3 (hb1.ext hE6) ?_
    refine call (badEdge_ok (h'.ext hE6) (hb2.ext hE6) (hbf.ext hE6) (hf.ext hE6) hp hq hsq hfl (h.edges.ext hE6)) ?_
    rintro y w10 ⟨hy, hE10⟩
    refine ⟨?_, hE.trans (hE6.trans hE10)⟩
    constructor
    · intro hh
      refine ⟨hfl, hx.1 ht, hI, fun r hr => Classical.byContradiction fun hn => ?_⟩
      have hyt := hy.2 ⟨r, hr, hn⟩
      rw [hyt] at hh; cases hh
    · intro hM
      cases hyb : y with
      | false => rfl
      | true =>
        obtain ⟨r, hr, hn⟩ := hy.1 hyb
        exact absurd (hM.edges r hr) hn

/-! ### Whether it is a label map: the reference -/

theorem reInto_ok {w : World} {s t fs : Sl} {L M : List (List Int)} {f : List Int} (hl : R w s L) (hm : R w t M) (hf : R w fs f) (hin : ∀ r ∈ L, r.length ≤ 1048576 ∧ ∀ x ∈ r, ∃ u : Nat, x = u ∧ u < f.length) :
    Calls Tryz.prog F.s_reInto #[s.v, t.v, fs.v] w (Ret [.at .bool] fun (x : Bool) w' => (x = true ↔ ∀ r ∈ L, sortI (img f r) ∈ M) ∧ Ext w w') := by
  refine C_s_reInto ?_
  unfold V_s_reInto
  rw [hl.len]
  refine ⟨IN L.length fun i w' => Ext w w' ∧ ∀ r ∈ L.take i, sortI (img f r) ∈ M, MN L.length, IN_zero ⟨Ext.refl _, by simp⟩, ?_⟩
  rintro _ w1 ⟨i, rfl, hi, hE, hI⟩
  intros
  refine cond_dec (fun hlt => ?_) (fun hge => ?_)
  · have hi' : i < L.length := by omega
    obtain ⟨hrl, hri⟩ := hin _ (List.getElem_mem hi')
    refine (hl.ext hE).ixL hi' fun q0 s1 hR1 hc => LD_sl hc ?_
    refine call (throughI_ok (hf.ext hE) hR1.any hri hrl) ?_
    rintro r2 w2 ⟨hE2, hO2⟩
    have hok := img_I64 (f := f) (l := L[i]) (flat_ok hf)
    refine call (prSorted_ok (hO2.rep hok).any (by rw [img_len]; exact hrl)) ?_
    rintro r3 w3 ⟨hE3, hO3⟩
    have hE13 := hE2.trans hE3
    refine call (prHas_ok (hm.ext (hE.trans hE13)) (hO3.rep (sortI_I64 hok)).any) ?_
    rintro _ w4 ⟨rfl, hE4⟩
    have hEt := hE.trans (hE13.trans hE4)
    refine cond_not (fun hfa => ⟨?_, hEt⟩) (fun ht => IN_next hl.le hi' ⟨hEt, fun r hr => ?_⟩)
    · simp only [Bool.false_eq_true, false_iff]
      intro hA
      have := hA _ (List.getElem_mem hi')
      simp [this] at hfa
    · rw [List.take_succ_eq_append_getElem hi'] at hr
      rcases List.mem_append.1 hr with h1 | h1
      · exact hI r h1
      · rw [List.mem_singleton.1 h1]; simpa using ht
  · have : i = L.length := by omega
    subst this
    rw [List.take_length] at hI
    exact ⟨by simp only [true_iff]; exact hI, hE⟩

theorem reMap_ok {w : World} {c d c' d' fs : Sl} {p q : Prob} {f : List Int} (h : RProb w c d p) (h' : RProb w c' d' q) (hp : PGood p) (hq : PGood q) (hf : R w fs f) :
    Calls Tryz.prog F.s_reMap #[.agg #[.int .i64 p.labels, .int .i64 p.degree, c.v, d.v], .agg #[.int .i64 q.labels, .int .i64 q.degree, c'.v, d'.v], fs.v] w (Ret [.at .bool] fun (x : Bool) w' => (x = true ↔ MapOk p q f) ∧ Ext w w') := by
  refine C_s_reMap ?_
  unfold V_s_reMap
  refine NEW_intro fun pp w1 hp1 hs1 hE1 hb1 => NEW_intro fun pq w2 hp2 hs2 hE2 hb2 => LD_bi0 (hb1.ext hE2) ?_
  have hE := hE1.trans hE2
  replace h := h.ext hE
  replace h' := h'.ext hE
  replace hf := hf.ext hE
  replace hb1 := hb1.ext hE2
  have hno : ∀ {w' : World}, Ext w w' → ¬ MapOk p q f → (false = true ↔ MapOk p q f) ∧ Ext w w' := fun h1 h2 => ⟨by simp [h2], h1⟩
  rw [hf.len]
  refine cond_eq (fun heq => LD_bi0 hb2 ?_) (fun hne => hno hE fun hM => hne hM.len)
  have hfl : (f.length : Int) = p.labels := heq
  have hlq := hq.lab
  have hd := hp.deg
  rw [wrap_of (n := q.labels - 1) (by omega) (by omega)]
  refine call (l1All_ok hf 0 (q.labels - 1)) ?_
  rintro x _ ⟨hx, rfl⟩
  refine cond_b (fun ht => LD_bs2 hb1 (LD_bs2 hb2 ?_)) (fun hfa => hno hE fun hM => by rw [hx.2 hM.labs] at hfa; cases hfa)
  refine call (reInto_ok h.nodes h'.nodes hf fun r hr => ⟨by have := (confRow hp.nodes hr).1; omega, in_map hfl (confRow hp.nodes hr).2⟩) ?_
  rintro y w4 ⟨hy, hE4⟩
  replace hE := hE.ext hE4
  replace h := h.ext hE4
  replace h' := h'.ext hE4
  replace hf := hf.ext hE4
  replace hb1 := hb1.ext hE4
  replace hb2 := hb2.ext hE4
  refine cond_b (fun ht2 => LD_bs3 hb1 (LD_bs3 hb2 ?_)) (fun hfa => hno hE fun hM => by rw [hy.2 hM.nodes] at hfa; cases hfa)
  refine call (reInto_ok h.edges h'.edges hf fun r hr => ⟨by have := (confRow hp.edges hr).1; omega, in_map hfl (confRow hp.edges hr).2⟩) ?_
  rintro z w5 ⟨hz, hE5⟩
  exact ⟨⟨fun ht3 => ⟨hfl, hx.1 ht, hy.1 ht2, hz.1 ht3⟩, fun hM => hz.2 hM.edges⟩, hE.trans hE5⟩

/-! ### The statement's answers -/

theorem MlAsked.of {p q : Prob} {f : List Int} {n : Net} {L : List (List Int)} (h1 : TwoOk p q) (h2 : MapOk p q f) (h3 : Good n) (h4 : LabOk p n.ends L) : MlAsked p q f n L := ⟨h1.1, h1.2.1, h1.2.2, h2, h3, h4⟩

theorem LabOk.inMap {p : Prob} {n : Net} {L : List (List Int)} {f : List Int} (hg : Good n) (h : LabOk p n.ends L) (hfl : (f.length : Int) = p.labels) : (∀ r ∈ L, r.length ≤ 1048576 ∧ ∀ x ∈ r, ∃ u : Nat, x = u ∧ u < f.length) ∧ L.length ≤ 1048576 := by
  have h40 := hg.size.2
  have hLl := h.rows.1
  refine ⟨fun r hr => ⟨?_, in_map hfl (h.labs r hr)⟩, by omega⟩
  obtain ⟨v, hv, rfl⟩ := List.mem_iff_getElem.1 hr
  have hve : v < n.ends.length := by omega
  have h1 := h.rows.2 v hv
  rw [rowD hv, rowD hve] at h1
  have := hg.deg hve
  omega

end Go.Proofs.YtlmiookpmneicaaGreat
end

section
/- Configuration maps, both sides. -/
namespace Go.Proofs.YtlmiookpmneicaaGreat
open Go.GX Go.RowKit
set_option maxRecDepth 100000

/-! ### Two slices of the call's own that lie apart -/

def Aside (s t : Sl) : Prop := ∀ k, s.v.ownBlock = some k → t.v.ownBlock ≠ some k

theorem Aside.symm {s t : Sl} (h : Aside s t) : Aside t s := fun k hk hk' => h k hk' hk

theorem Aside.new {w : World} {base : Nat} {s s' t : Sl} {l : List Int} (h : Aside s t) (ht : OwnL w base T.t_int t l) (hn : NewOr w s s') : Aside s' t := fun k hk hk' => by
  rcases hn with h1 | h1
  · exact h k (by rw [← h1]; exact hk) hk'
  · have h2 := h1 k hk
    have h3 := (ht.blk k hk').2
    omega

theorem flat_len {C : List (List Int)} {d : Nat} (h : ∀ c ∈ C, c.length = d) : C.flatten.length = C.length * d := by
  induction C with
  | nil => simp
  | cons c C ih =>
    rw [List.flatten_cons, List.length_append, ih fun x hx => h x (List.mem_cons_of_mem _ hx), h c (by simp), List.length_cons, Nat.succ_mul, Nat.add_comm]

theorem take_flat {C : List (List Int)} {i : Nat} (hi : i < C.length) : (C.take (i + 1)).flatten = (C.take i).flatten ++ C[i] := by
  rw [List.take_succ_eq_append_getElem hi, List.flatten_append]
  simp

theorem flat_I64 {C : List (List Int)} (h : ∀ c ∈ C, ∀ x ∈ c, I64 x) : ∀ x ∈ C.flatten, I64 x := fun x hx => by
  obtain ⟨c, hc, hx⟩ := List.mem_flatten.1 hx
  exact h c hc x hx

/-! ### Whether it is a configuration map: the program -/

def CRow (q : Prob) (r : List Int) : Prop := (r.length : Int) = q.degree ∧ AllIn r 0 (q.labels - 1) ∧ NodeOk q r

theorem isConfigMap_ok {w : World} {c d c' d' rs : Sl} {p q : Prob} {rows : List (List Int)} (h : RProb w c d p) (h' : RProb w c' d' q) (hp : PGood p) (hq : PGood q) (hsp : SmallP p) (hsq : SmallP q) (hdeg : p.degree = q.degree) (hr : R w rs rows) :
    Calls Tryz.prog F.i_isConfigMap #[.agg #[.int .i64 p.labels, .int .i64 p.degree, c.v, d.v], .agg #[.int .i64 q.labels, .int .i64 q.degree, c'.v, d'.v], rs.v] w (Ret [.at .bool] fun (x : Bool) w' => (x = true ↔ CmOk p q rows) ∧ Ext w w') := by
  refine C_i_isConfigMap ?_
  unfold V_i_isConfigMap
  refine NEW_intro fun pp w1 hp1 hs1 hE1 hb1 => NEW_intro fun pq w2 hp2 hs2 hE2 hb2 => LD_bs2 (hb1.ext hE2) ?_
  have hE := hE1.trans hE2
  replace h := h.ext hE
  replace h' := h'.ext hE
  replace hr := hr.ext hE
  replace hb1 := hb1.ext hE2
  have hno : ∀ {w' : World}, Ext w w' → ¬ CmOk p q rows → (false = true ↔ CmOk p q rows) ∧ Ext w w' := fun h1 h2 => ⟨by simp [h2], h1⟩
  have hrb : SlR (fun b => b < w2.heap.size) w2 rs rows := hr.below.weak (fun b hb _ => hb.2) RepP.pos
  rw [hr.len, h.nodes.len]
  refine cond_ne (fun hne => hno hE fun hM => hne (by have := hM.len; omega)) (fun heq => ?_)
  have hlen : rows.length = p.nodes.length := by have : ((rows.length : Nat) : Int) = (p.nodes.length : Nat) := heq; omega
  have hd := hp.deg
  have hnl := hsp.1.1
  have hcn : ∀ x ∈ p.nodes, x.length = p.degree.toNat := fun x hx => by have := (confRow hp.nodes hx).1; omega
  have hn64 := flat_okII h.nodes
  have hr64 := flat_okII hr
  refine ⟨fun (s t : Sl) (x : Int) w' => ∃ i : Nat, x = i ∧ i ≤ rows.length ∧ Ext w2 w' ∧ (∀ r ∈ rows.take i, CRow q r) ∧ OwnL w' w2.heap.size T.t_int s (p.nodes.take i).flatten ∧ OwnL w' w2.heap.size T.t_int t (rows.take i).flatten ∧ Aside s t,
    fun _ _ x _ => rows.length - x.toNat, ⟨0, rfl, by omega, Ext.refl _, by simp, OwnL.nil _ _ _, OwnL.nil _ _ _, fun k hk => by cases hk⟩, ?_⟩
  rintro s t _ w3 ⟨i, rfl, hi, hE3, hI, hA, hB, hap⟩
  intros
  have hcr : ∀ x ∈ rows.take i, x.length = p.degree.toNat := fun x hx => by have := (hI x hx).1; omega
  refine cond_dec (fun hlt => ?_) (fun hge => ?_)
  · have hi' : i < rows.length := by omega
    have hin : i < p.nodes.length := by omega
    refine (hrb.ext hE3).ixL hi' fun q0 s1 hR1 hc => LD_sl hc (LD_bi1 (hb2.ext hE3) ?_)
    rw [hR1.len]
    refine cond_ne (fun hne => hno (hE.trans hE3) fun hM => hne (hM.row _ (List.getElem_mem hi')).1) (fun hreq => LD_iiss (hb2.ext hE3) ?_)
    have hrl : (rows[i].length : Int) = q.degree := hreq
    refine call (hasLabels_ok hq.lab hR1.any) ?_
    rintro x w4 ⟨hx, hE4⟩
    refine cond_not (fun hf => hno (hE.trans (hE3.trans hE4)) fun hM => by rw [hx.2 (hM.row _ (List.getElem_mem hi')).2.1] at hf; cases hf) (fun ht => LD_iiss (hb2.ext (hE3.trans hE4)) ?_)
    refine call (node_ok (h'.ext (hE3.trans hE4)) hsq hq (hR1.any.ext hE4) (by omega)) ?_
    rintro y w5 ⟨hy, hE5⟩
    have hE45 := hE4.trans hE5
    have hE35 := hE3.trans hE45
    refine cond_not (fun hf => hno (hE.trans hE35) fun hM => by rw [hy.2 (hM.row _ (List.getElem_mem hi')).2.2] at hf; cases hf) (fun ht2 => LD_bs2 (hb1.ext hE35) ?_)
    refine (h.nodes.ext hE35).ixL hin fun q1 s2 hR2 hc => LD_sl hc ?_
    have hsz := hE35.size_le
    have hA5 := hA.ext hE45
    have hB5 := hB.ext hE45
    have hfA : (p.nodes.take i).flatten.length = i * p.degree.toNat := by rw [flat_len fun x hx => hcn x (List.mem_of_mem_take hx), List.length_take]; congr 1; omega
    have hfB : (rows.take i).flatten.length = i * p.degree.toNat := by rw [flat_len hcr, List.length_take]; congr 1; omega
    have hmul : i * p.degree.toNat ≤ i * 4 := Nat.mul_le_mul_left _ (by omega)
    have hni := hcn _ (List.getElem_mem hin)
    refine RUN_appendF (α := Int) slt_int hA5 hsz hR2.any (by rw [hfA, hni]; omega) (by rw [hfA, hni]; simp only [maxLen]; omega) fun s' w8 hA8 hs8 hn8 => ?_
    have hB8 := hB5.keep fun k hk => hs8.block k (hB5.blk k hk).2 fun he => hap k he.symm hk
    have hE58 : Ext w2 w8 := hs8.ext0 hE35 fun k hk => (hA5.blk k hk).1
    have hR18 := (hR1.ext hE45).stepD hs8 (fun b hb he => by have := (hA5.blk b he).1; omega)
    refine RUN_appendF (α := Int) slt_int hB8 hE58.size_le hR18.any (by rw [hfB, show rows[i].length = p.degree.toNat by omega]; omega) (by rw [hfB, show rows[i].length = p.degree.toNat by omega]; simp only [maxLen]; omega) fun t' w9 hB9 hs9 hn9 => ?_
    have hap8 : Aside s' t := hap.new hB5 hn8
    have hA9 := hA8.keep fun k hk => hs9.block k (hA8.blk k hk).2 fun he => hap8 k hk he.symm
    have hap9 : Aside s' t' := (hap8.symm.new hA8 hn9).symm
    rw [wrap_of (by omega) (by omega)]
    refine ⟨⟨i + 1, by omega, hi', hs9.ext0 hE58 fun k hk => (hB8.blk k hk).1, fun r hr => ?_, by rw [take_flat hin]; exact hA9, by rw [take_flat hi']; exact hB9, hap9⟩, by simp only []; omega⟩
    rw [List.take_succ_eq_append_getElem hi'] at hr
    rcases List.mem_append.1 hr with h1 | h1
    · exact hI r h1
    · rw [List.mem_singleton.1 h1]; exact ⟨hrl, hx.1 ht, hy.1 ht2⟩
  · have : i = rows.length := by omega
    subst this
    rw [List.take_length] at hI hB hcr
    have htk : p.nodes.take rows.length = p.nodes := List.take_of_length_le (by omega)
    rw [htk] at hA
    have hRA : R w3 s p.nodes.flatten := (hA.rep (flat_I64 hn64)).any
    have hRB : R w3 t rows.flatten := (hB.rep (flat_I64 hr64)).any
    have hfA : p.nodes.flatten.length = p.nodes.length * p.degree.toNat := flat_len hcn
    have hfB : rows.flatten.length = rows.length * p.degree.toNat := flat_len hcr
    have hAB : p.nodes.flatten.length = rows.flatten.length := by rw [hfA, hfB, hlen]
    have hmul : p.nodes.length * p.degree.toNat ≤ p.nodes.length * 4 := Nat.mul_le_mul_left _ (by omega)
    have hpairs := pairs_places (p := p) (q := q) hAB
    rw [← pairs_flat hlen.symm hcn hcr] at hpairs
    generalize hAe : p.nodes.flatten = A at *
    generalize hBe : rows.flatten = B at *
    have hA64 := flat_ok hRA
    have hB64 := flat_ok hRB
    have hE03 := hE.trans hE3
    rw [hRA.len]
    refine ⟨IN A.length fun x w' => Ext w3 w' ∧ ∀ u < x, ∀ (hu : u < A.length) y (hy : y < A.length), u ≤ y → EdgeIs p A[u] A[y] → EdgeIs q (B[u]'(by omega)) (B[y]'(by omega)), MN A.length, IN_zero ⟨Ext.refl _, fun u hu => absurd hu (by omega)⟩, ?_⟩
    rintro _ w10 ⟨x, rfl, hx, hE10, hJ⟩
    intros
    refine cond_dec (fun hlt => ?_) (fun hge2 => ?_)
    · have hx' : x < A.length := by omega
      have hxB : x < B.length := by omega
      refine ⟨fun (y : Int) w' => ∃ j : Nat, y = j ∧ x ≤ j ∧ j ≤ A.length ∧ Ext w3 w' ∧ ∀ k < j, ∀ (hk : k < A.length), x ≤ k → EdgeIs p A[x] A[k] → EdgeIs q B[x] (B[k]'(by omega)), fun y _ => A.length - y.toNat, ⟨x, rfl, by omega, by omega, hE10, fun k hk _ hxk => by omega⟩, ?_⟩
      rintro _ w11 ⟨y, rfl, hxy, hy, hE11, hK⟩
      intros
      refine cond_dec (fun hlt2 => ?_) (fun hge3 => ?_)
      · have hy' : y < A.length := by omega
        have hyB : y < B.length := by omega
        have hEt := hE3.trans hE11
        refine LD_iiss (hb1.ext hEt) ?_
        refine (hRA.ext hE11).ixI hx' fun q1 _ hc => LD_int hc ?_
        refine (hRA.ext hE11).ixI hy' fun q2 _ hc => LD_int hc ?_
        refine QCALL_bool (edgeB p A[x] A[y]) (edgeQ (h.ext hEt) hsp hp (hA64 _ (List.getElem_mem hx')) (hA64 _ (List.getElem_mem hy'))) ?_
        have hgo : ∀ w', Ext w11 w' → (EdgeIs p A[x] A[y] → EdgeIs q B[x] B[y]) → _ := fun w' hE' hok => (show (∃ j : Nat, IntKind.i64.wrap ((y : Int) + 1) = j ∧ x ≤ j ∧ j ≤ A.length ∧ Ext w3 w' ∧ ∀ k < j, ∀ (hk : k < A.length), x ≤ k → EdgeIs p A[x] A[k] → EdgeIs q B[x] (B[k]'(by omega))) ∧ A.length - (IntKind.i64.wrap ((y : Int) + 1)).toNat < A.length - ((y : Int)).toNat by
          rw [wrap_of (by omega) (by omega)]
          refine ⟨⟨y + 1, by omega, by omega, hy', hE11.trans hE', fun k hk hkA hxk => ?_⟩, by omega⟩
          by_cases hky : k = y
          · subst hky; exact hok
          · exact hK k (by omega) hkA hxk)
        refine cond_b (fun ht => ?_) (fun hf w' hE' => hgo w' hE' fun he => absurd he (edgeB_no.1 hf))
        refine LD_iiss (hb2.ext hEt) ?_
        refine (hRB.ext hE11).ixI hxB fun q1 _ hc => LD_int hc ?_
        refine (hRB.ext hE11).ixI hyB fun q2 _ hc => LD_int hc ?_
        refine QCALL_bool (edgeB q B[x] B[y]) (edgeQ (h'.ext hEt) hsq hq (hB64 _ (List.getElem_mem hxB)) (hB64 _ (List.getElem_mem hyB))) ?_
        intro w12 hE12
        refine cond_not (fun hf => hno (hE03.trans (hE11.trans hE12)) fun hM => ?_) (fun ht2 => hgo _ hE12 fun _ => edgeB_iff.1 ht2)
        exact edgeB_no.1 hf (hpairs.1 hM.pairs x hx' y hy' hxy (edgeB_iff.1 ht))
      · have : y = A.length := by omega
        subst this
        refine IN_next (by omega) hx' ⟨hE11, fun u hu huA k hk huk he => ?_⟩
        by_cases hux : u = x
        · subst hux; exact hK k hk hk huk he
        · exact hJ u (by omega) huA k hk huk he
    · have : x = A.length := by omega
      subst this
      refine ⟨by simp only [true_iff]; exact ⟨hlen, hI, hpairs.2 fun u hu y hy huy he => hJ u hu hu y hy huy he⟩, hE03.trans hE10⟩

/-! ### Whether it is a solution -/

theorem isSolution_ok {w : World} {c d a b e s : Sl} {p : Prob} {n : Net} {L : List (List Int)} (hq : RProb w c d p) (hs : SmallP p) (hp : PGood p) (hg : Good n) (h : RNet w a b e n) (hl : R w s L) :
    Calls Tryz.prog F.i_isSolution #[.agg #[.int .i64 p.labels, .int .i64 p.degree, c.v, d.v], .agg #[a.v, b.v, e.v], s.v] w (Ret [.at .bool] fun (x : Bool) w' => (x = true ↔ LabOk p n.ends L ∧ Clean p n.ends L) ∧ Ext w w') := by
  refine C_i_isSolution ?_
  unfold V_i_isSolution
  refine NEW_intro fun pp w1 hp1 hs1 hE1 hb1 => NEW_intro fun pn w2 hp2 hs2 hE2 hb2 => LD_iiss (hb1.ext hE2) (LD_box3 hb2 ?_)
  have hE := hE1.trans hE2
  replace hq := hq.ext hE
  replace h := h.ext hE
  replace hl := hl.ext hE
  replace hb1 := hb1.ext hE2
  refine call (isLabeling_ok hq hp h hl) ?_
  rintro z w5 ⟨hz, hE5⟩
  replace hE := hE.ext hE5
  replace hq := hq.ext hE5
  replace h := h.ext hE5
  replace hl := hl.ext hE5
  replace hb1 := hb1.ext hE5
  replace hb2 := hb2.ext hE5
  refine cond_not (fun hf => ⟨(by simp only [Bool.false_eq_true, false_iff]; intro hA; rw [hz.2 hA.1] at hf; cases hf), hE⟩) (fun ht3 => LD_iiss hb1 (LD_box3 hb2 ?_))
  have hA : SolAsked p n L := ⟨hp, hg, hz.1 ht3⟩
  refine call (labelFault_ok hq hs hA.fin h hl) ?_
  rintro v i f w6 ⟨hf, hE6⟩
  refine ⟨?_, hE.trans hE6⟩
  rcases hf with ⟨rfl, hfa⟩ | ⟨rfl, _, _, hcl⟩
  · simp only [Bool.not_true, Bool.false_eq_true, false_iff]
    exact fun h => hfa.bad h.2
  · simp only [Bool.not_false, true_iff]
    exact ⟨hA.lab, hcl⟩

end Go.Proofs.YtlmiookpmneicaaGreat
end
