/- Problems as arguments: read, counted, copied, held against each other, marked. -/
import Derived.Test.YtjfodknpphhajaaGreatProb
import Derived.Test.YtjfodknpphhajaaGreatMat
import Derived.Test.YtjfodknpphhajaaGreatMark
import Derived.Test.YtjfodknpphhajaaGreatOpen
import Derived.Test.YtjfodknpphhajaaGreatReduce
namespace Go.Proofs.YtjfodknpphhajaaGreat
open Go.GX Go.RowKit
set_option maxRecDepth 100000

structure Prob where
  labels : Int
  degree : Int
  nodes : List (List Int)
  edges : List (List Int)

/-- The slices of a problem read as its configurations. -/
structure RProb (w : World) (c d : Sl) (p : Prob) : Prop where
  labels : I64 p.labels
  degree : I64 p.degree
  nodes : R w c p.nodes
  edges : R w d p.edges

theorem RProb.ext {w w' : World} {c d : Sl} {p : Prob} (h : RProb w c d p) (hE : Ext w w') : RProb w' c d p := ⟨h.labels, h.degree, h.nodes.ext hE, h.edges.ext hE⟩

def SmallP (p : Prob) : Prop := SmallM p.nodes ∧ SmallM p.edges

theorem LD_iiss {w : World} {p : Addr} {t : TypeId} {x y : Int} {z u : Sl} {r : List Value} {K : Int → Int → Sl → Sl → Prop} (hb : Box w p t (.int .i64 x :: .int .i64 y :: z.v :: u.v :: r)) (hk : K x y z u) : LD [.int .i64, .int .i64, .sl, .sl] p w K := by
  refine ⟨[.int .i64 x, .int .i64 y, z.v, u.v], rfl, fun i v hv => ?_, hk⟩
  match i, hv with
  | 0, hv => exact hb.cell (i := 0) hv
  | 1, hv => exact hb.cell (i := 1) hv
  | 2, hv => exact hb.cell (i := 2) hv
  | 3, hv => exact hb.cell (i := 3) hv
  | i + 4, hv => simp at hv
theorem LD_bs3 {w : World} {p : Addr} {t : TypeId} {x : Sl} {v0 v1 v2 : Value} {r : List Value} {K : Sl → Prop} (hb : Box w p t (v0 :: v1 :: v2 :: x.v :: r)) (hk : K x) : LD [.sl] (p.add 3) w K := LD_sl (hb.cell (i := 3) rfl) hk
theorem one4p (x y : Int) (z u : Sl) : ∀ v ∈ [Value.int .i64 x, .int .i64 y, z.v, u.v], v.oneCell' = true := by intro v hv; simp at hv; rcases hv with rfl | rfl | rfl | rfl <;> rfl

theorem szProblem_ok {w : World} {c d : Sl} {p : Prob} (h : RProb w c d p) (left : Int) (h0 : 0 ≤ left) (h1 : left ≤ 1048576) :
    Calls Tryz.prog F.l_szProblem #[.agg #[.int .i64 p.labels, .int .i64 p.degree, c.v, d.v], .int .i64 left] w (Ret [.at (.int .i64)] fun (x : Int) w' => (0 ≤ x → SmallP p ∧ x ≤ left) ∧ Ext w w') := by
  refine C_l_szProblem ?_
  unfold V_l_szProblem
  refine NEW_intro fun pa w1 hp hs hE hb => LD_bs2 hb ?_
  replace h := h.ext hE
  refine call (szIntSS_ok h.nodes left h0 h1) ?_
  rintro x _ ⟨hx, rfl⟩
  refine cond_dec (fun hn => ⟨fun h => by omega, hE⟩) (fun hnn => LD_bs3 hb ?_)
  obtain ⟨a1, a2, a3⟩ := hx (by omega)
  refine call (szIntSS_ok h.edges x (by omega) (by omega)) ?_
  rintro y _ ⟨hy, rfl⟩
  refine cond_dec (fun hn => ⟨fun h => by omega, hE⟩) (fun hnn2 => ⟨fun _ => ?_, hE⟩)
  obtain ⟨b1, b2, b3⟩ := hy (by omega)
  exact ⟨⟨⟨by omega, fun r hr => by have := a3 r hr; omega⟩, ⟨by omega, fun r hr => by have := b3 r hr; omega⟩⟩, by omega⟩

/-- Networks counted, with what is left. -/
theorem szNetwork_at {w : World} {a b c : Sl} {n : Net} (h : RNet w a b c n) (left : Int) (hl0 : 0 ≤ left) (hl1 : left ≤ 1048576) :
    Calls Tryz.prog F.l_szNetwork #[.agg #[a.v, b.v, c.v], .int .i64 left] w (Ret [.at (.int .i64)] fun (x : Int) w' => (0 ≤ x → Small n ∧ x ≤ left) ∧ Ext w w') := by
  refine C_l_szNetwork ?_
  unfold V_l_szNetwork
  refine NEW_intro fun pa w1 hp1 hs1 hE1 hb1 => ?_
  refine LD_bs0 hb1 ?_
  refine call (szEndSS_ok (h.1.ext hE1) _ (by omega) (by omega)) ?_
  rintro x1 _ ⟨h1, rfl⟩
  refine cond_dec (fun _ => ⟨by omega, hE1⟩) (fun hn1 => ?_)
  have k1 := h1 (by omega)
  refine LD_bs1 hb1 ?_
  refine call (szIntS_ok (h.2.1.ext hE1) _ (by omega) (by omega)) ?_
  rintro x2 _ ⟨h2, rfl⟩
  refine cond_dec (fun _ => ⟨by omega, hE1⟩) (fun hn2 => ?_)
  have k2 := h2 (by omega)
  refine LD_bs2 hb1 ?_
  refine call (szIntS_ok (h.2.2.ext hE1) _ (by omega) (by omega)) ?_
  rintro x3 _ ⟨h3, rfl⟩
  refine cond_dec (fun _ => ⟨by omega, hE1⟩) (fun hn3 => ?_)
  have k3 := h3 (by omega)
  exact ⟨fun _ => ⟨⟨by omega, fun r hr => by have := k1.2.2 r hr; omega, by omega, by omega⟩, by omega⟩, hE1⟩

/-- A problem of the call's own: its lists of configurations lie apart. -/
structure OwnProb (w : World) (lo mid hi : Nat) (z u : Sl) (p : Prob) : Prop where
  nodes : Own2 w lo T.t_int T.t_sl_int z p.nodes
  edges : Own2 w mid T.t_int T.t_sl_int u p.edges
  mnodes : MIntSS w z lo mid
  medges : MIntSS w u mid hi
  lom : lo ≤ mid
  mhi : mid ≤ hi
  top : hi ≤ w.heap.size

theorem OwnProb.ext {w w' : World} {lo mid hi : Nat} {z u : Sl} {p : Prob} (h : OwnProb w lo mid hi z u p) (hE : Ext w w') : OwnProb w' lo mid hi z u p :=
  ⟨h.nodes.ext hE, h.edges.ext hE, h.mnodes.ext hE, h.medges.ext hE, h.lom, h.mhi, Nat.le_trans h.top hE.size_le⟩
theorem OwnProb.prob {w w0 : World} {lo mid hi : Nat} {c d z u : Sl} {p : Prob} (h : OwnProb w lo mid hi z u p) (h0 : RProb w0 c d p) : RProb w z u p :=
  ⟨h0.labels, h0.degree, h.nodes.rep (flat_okII h0.nodes), h.edges.rep (flat_okII h0.edges)⟩

theorem mintss_at {w w' : World} {base : Nat} {s : Sl} {L : List (List Int)} (h : Own2 w base T.t_int T.t_sl_int s L) (hl : L.length ≤ 1048576) (hll : ∀ r ∈ L, r.length ≤ 1048576) (hk : ∀ k, base ≤ k → k < w.heap.size → w'.heap[k]? = w.heap[k]?) {lo : Nat} (hlo : lo ≤ base) : MIntSS w' s lo w.heap.size := by
  obtain ⟨ss, h1, h2, h3⟩ := h
  refine ⟨ss, (h1.keep fun k hb => hk k (h1.blk k hb).1 (h1.blk k hb).2).low hlo, by omega, fun r hr => ?_⟩
  obtain ⟨i, hi, rfl⟩ := List.mem_iff_getElem.1 hr
  have hiL : i < L.length := by omega
  have hO := h3 i ss[i] L[i] (by simp [hi]) (by simp [hiL])
  have hO' : OwnL w' base T.t_int ss[i] L[i] := hO.keep fun k hb => hk k (hO.blk k hb).1 (hO.blk k hb).2
  refine ⟨⟨hO'.wr, by rw [hO.1]; exact hll _ (List.getElem_mem hiL), fun b hb => ?_⟩, fun b hb he => ?_⟩
  · have := hO.blk b (blkOf_own hO hb)
    omega
  · obtain ⟨c1, e1⟩ := hO.type (blkOf_own hO hb)
    obtain ⟨c2, e2⟩ := h1.type he
    rw [e1] at e2
    exact absurd (Obj.cells.inj (Option.some.inj e2)).2.1 (by decide)

theorem toProblem_own {w : World} {c d : Sl} {p : Prob} (h : RProb w c d p) (hs : SmallP p) :
    Calls Tryz.prog F.l_toProblem #[.agg #[.int .i64 p.labels, .int .i64 p.degree, c.v, d.v]] w (Ret [.agg [.int .i64, .int .i64, .sl, .sl]] fun (x y : Int) (z u : Sl) w' => x = p.labels ∧ y = p.degree ∧ Ext w w' ∧ ∃ mid hi, OwnProb w' w.heap.size mid hi z u p) := by
  refine C_l_toProblem ?_
  unfold V_l_toProblem
  refine NEW_intro fun pa w1 hp1 hs1 hE1 hb1 => ?_
  refine NEW_intro fun px w2 hp2 hs2 hE2 hb2 => ?_
  refine NEW_intro fun po w3 hp3 hs3 hE3 hb3 => ?_
  have ha3 := (hb1.ext hE2).ext hE3
  have hx3 := hb2.ext hE3
  have hE : Ext w w3 := (hE1.trans hE2).trans hE3
  have hlt := hb3.lt
  refine LD_bi0 ha3 ?_
  refine ST_box1 hb3 (by simp) rfl fun w4 hz4 hk4 hX4 hb4 => ?_
  have hE4 := hX4 _ hE (by omega)
  have ha4 := ha3.of_block (hk4 _ (by omega))
  have hx4 := hx3.of_block (hk4 _ (by omega))
  refine LD_bi1 ha4 ?_
  refine ST_box1 hb4 (by simp) rfl fun w5 hz5 hk5 hX5 hb5 => ?_
  have hE5 := hX5 _ hE4 (by omega)
  have ha5 := ha4.of_block (hk5 _ (by omega))
  have hx5 := hx4.of_block (hk5 _ (by omega))
  refine LD_bs2 ha5 ?_
  refine call (toIntSS_own (h.nodes.ext hE5) hs.1.1 hs.1.2) ?_
  rintro z w6 ⟨hE6, hz⟩
  have hlt5 := hb5.lt
  refine ST_box1 (hb5.ext hE6) (by simp) rfl fun w7 hz7 hk7 hX7 hb7 => ?_
  have hE7 := hX7 _ (hE5.trans hE6) (by omega)
  have ha7 := (ha5.ext hE6).of_block (hk7 _ (by omega))
  have hx7 := (hx5.ext hE6).of_block (hk7 _ (by omega))
  have hz' : Own2 w7 w5.heap.size T.t_int T.t_sl_int z p.nodes := hz.keep fun b hb _ => hk7 b (by omega)
  refine LD_bs3 ha7 ?_
  refine call (toIntSS_own (h.edges.ext hE7) hs.2.1 hs.2.2) ?_
  rintro u w8 ⟨hE8, hu⟩
  have hlt7 := hb7.lt
  have hsz6 := hE6.size_le
  have hsz8 := hE8.size_le
  refine ST_box1 (hb7.ext hE8) (by simp) rfl fun w9 hz9 hk9 hX9 hb9 => ?_
  have hE9 := hX9 _ (hE7.trans hE8) (by omega)
  have hx9 := (hx7.ext hE8).of_block (hk9 _ (by omega))
  have hz9' : Own2 w9 w5.heap.size T.t_int T.t_sl_int z p.nodes := (hz'.ext hE8).keep fun b hb _ => hk9 b (by omega)
  have hu9 : Own2 w9 w7.heap.size T.t_int T.t_sl_int u p.edges := hu.keep fun b hb _ => hk9 b (by omega)
  refine LD_iiss hb9 ?_
  refine ST_all hx9 (one4p _ _ _ _) rfl fun w10 hs10 hz10 hb10 => ?_
  have hsz5 : w.heap.size ≤ w5.heap.size := by have := hE.size_le; omega
  have hpx : px.block < w3.heap.size := hx3.lt
  have hz10' : Own2 w10 w5.heap.size T.t_int T.t_sl_int z p.nodes := hz9'.keep fun b hb h2 => hs10.block b h2 (by intro he; cases he; omega)
  have hu10 : Own2 w10 w7.heap.size T.t_int T.t_sl_int u p.edges := hu9.keep fun b hb h2 => hs10.block b h2 (by intro he; cases he; omega)
  have hmzl : MIntSS w10 z w.heap.size w7.heap.size := mintss_at hz' hs.1.1 hs.1.2 (fun k hk1 hk2 => by
    rw [hs10.block k (by omega) (by intro he; cases he; omega), hk9 k (by omega), hE8.block k hk2]) hsz5
  exact LD_iiss hb10 ⟨rfl, rfl, hs10.ext0 hE9 (fun k hk => by cases hk; omega), w7.heap.size, w10.heap.size, hz10'.low hsz5, hu10, hmzl, mintss_of hu10 hs.2.1 hs.2.2, by omega, by omega, Nat.le_refl _⟩

theorem toProblem_ok {w : World} {c d : Sl} {p : Prob} (h : RProb w c d p) (hs : SmallP p) :
    Calls Tryz.prog F.l_toProblem #[.agg #[.int .i64 p.labels, .int .i64 p.degree, c.v, d.v]] w (Ret [.agg [.int .i64, .int .i64, .sl, .sl]] fun (x y : Int) (z u : Sl) w' => x = p.labels ∧ y = p.degree ∧ Ext w w' ∧ RProb w' z u p) :=
  call (toProblem_own h hs) fun _ _ _ _ _ ⟨h1, h2, h3, _, _, h4⟩ => ⟨h1, h2, h3, h4.prob h⟩

theorem eqProblem_ok {w : World} {c d x y : Sl} {p : Prob} (h : RProb w c d p) (h' : RProb w x y p) :
    Calls Tryz.prog F.l_eqProblem #[.agg #[.int .i64 p.labels, .int .i64 p.degree, c.v, d.v], .agg #[.int .i64 p.labels, .int .i64 p.degree, x.v, y.v]] w (Ret [.at .bool] fun (r : Bool) w' => r = true ∧ Ext w w') := by
  refine C_l_eqProblem ?_
  unfold V_l_eqProblem
  refine NEW_intro fun pa w1 hp1 hs1 hE1 hb1 => ?_
  refine NEW_intro fun pb w2 hp2 hs2 hE2 hb2 => ?_
  have ha := hb1.ext hE2
  have hE := hE1.trans hE2
  refine LD_bi0 ha (LD_bi0 hb2 (cond_ne (fun h => absurd rfl h) (fun _ => LD_bi1 ha (LD_bi1 hb2 (cond_ne (fun h => absurd rfl h) (fun _ => LD_bs2 ha (LD_bs2 hb2 ?_)))))))
  refine call (eqIntSS_ok (h.nodes.ext hE) (h'.nodes.ext hE)) ?_
  rintro _ w3 ⟨rfl, hE3⟩
  refine cond_f (by simp) (LD_bs3 (ha.ext hE3) (LD_bs3 (hb2.ext hE3) ?_))
  refine call (eqIntSS_ok (h.edges.ext (hE.trans hE3)) (h'.edges.ext (hE.trans hE3))) ?_
  rintro _ w4 ⟨rfl, hE4⟩
  exact cond_f (by simp) ⟨rfl, (hE.trans hE3).trans hE4⟩

theorem markProblem_ok {w : World} {lo mid hi : Nat} {z u : Sl} {x y : Int} (h1 : MIntSS w z lo mid) (h2 : MIntSS w u mid hi) (hlm : lo ≤ mid) (hmh : mid ≤ hi) (ht : hi ≤ w.heap.size) (k : Int) (hk0 : 0 ≤ k) (hk : k ≤ 112589990684262400) :
    Calls Tryz.prog F.l_markProblem #[.agg #[.int .i64 x, .int .i64 y, z.v, u.v], .int .i64 k] w (Ret [.at (.int .i64)] fun (r : Int) w' => 0 ≤ r ∧ r ≤ k + 2199023255552 ∧ Shp w w' ∧ Chg w w' (fun b => lo ≤ b ∧ b < hi)) := by
  refine C_l_markProblem ?_
  unfold V_l_markProblem
  refine NEW_intro fun p w1 hp hs hE hb => LD_bs2 hb ?_
  refine call (markIntSS_ok (h1.ext hE) k hk0 (by omega)) ?_
  rintro r1 w2 ⟨ha, hb2, hS, hC⟩
  have hbx := hb.chg hC (by rw [hp]; intro hh; omega)
  refine LD_bs3 hbx ?_
  refine call (markIntSS_ok ((h2.ext hE).chg hS hC (Nat.le_refl _)) r1 ha (by omega)) ?_
  rintro r2 w3 ⟨hc, hc2, hS2, hC2⟩
  exact ⟨hc, by omega, (Shp.ext hE).trans (hS.trans hS2), (Chg.of_ext hE).trans ((hC.mono fun b hb => ⟨hb.1, by omega⟩).trans (hC2.mono fun b hb => ⟨by omega, hb.2⟩))⟩

variable {H : Type} {enc : TypeId × Value → H} {w : World} {base b0 : Nat} {spare : Nat → Bool} {held : Bool} {r : Reach} {v : Value} {d : DataW H} {p : List MemPlace}

theorem open_P (hv : Value.okWide Tryz.prog w r b0 T.t_l_Problem v) (h : DataW.Trod enc Tryz.prog w base spare held T.t_l_Problem v d p) : ∃ (c e : Sl) (q : Prob), v = .agg #[.int .i64 q.labels, .int .i64 q.degree, c.v, e.v] ∧ RProb w c e q := by
  obtain ⟨a, b, c, e, y, z, rfl, h0, h1, h2, h3⟩ := open_problem (u0 := T.t_int) (u1 := T.t_int) (u2 := T.t_sl_sl_int) (u3 := T.t_sl_sl_int) (by kernel_rfl) reads_int reads_int reads_intss reads_intss hv h
  exact ⟨c, e, ⟨a, b, y, z⟩, rfl, h0, h1, h2, h3⟩

/-! ### What is asked of a problem -/

structure PGood (p : Prob) : Prop where
  lab : 1 ≤ p.labels ∧ p.labels ≤ 8
  deg : 1 ≤ p.degree ∧ p.degree ≤ 4
  nodes : ConfOk p.nodes p.degree p.labels
  edges : ConfOk p.edges 2 p.labels

theorem IsProblem_ok {w : World} {c d : Sl} {p : Prob} (h : RProb w c d p) :
    Calls Tryz.prog F.i_IsProblem #[.agg #[.int .i64 p.labels, .int .i64 p.degree, c.v, d.v]] w (Ret [.at .bool] fun (x : Bool) w' => (x = true ↔ PGood p) ∧ Ext w w') := by
  refine C_i_IsProblem ?_
  unfold V_i_IsProblem
  refine NEW_intro fun pa w1 hp hs hE hb => LD_bi0 hb ?_
  replace h := h.ext hE
  have hno : ∀ {w' : World}, Ext w w' → ¬ PGood p → (false = true ↔ PGood p) ∧ Ext w w' := fun h1 h2 => ⟨by simp [h2], h1⟩
  refine call (within_ok _ _ _ _) ?_
  rintro _ _ ⟨rfl, rfl⟩
  refine cond_b (fun ht => LD_bi1 hb ?_) (fun hf => hno hE fun hg => inR_false hf hg.lab)
  have hlab := inR_true ht
  refine call (within_ok _ _ _ _) ?_
  rintro _ _ ⟨rfl, rfl⟩
  refine cond_b (fun ht2 => LD_bs2 hb (LD_bi1 hb (LD_bi0 hb ?_))) (fun hf => hno hE fun hg => inR_false hf hg.deg)
  have hdeg := inR_true ht2
  refine call (configurationsOk_ok h.nodes hlab) ?_
  rintro y w4 ⟨hy, hE4⟩
  replace hE := hE.ext hE4
  replace h := h.ext hE4
  replace hb := hb.ext hE4
  refine cond_b (fun ht3 => LD_bs3 hb (LD_bi0 hb ?_)) (fun hf => hno hE fun hg => by rw [hy.2 hg.nodes] at hf; cases hf)
  refine call (configurationsOk_ok h.edges hlab) ?_
  rintro z w5 ⟨hz, hE5⟩
  exact ⟨⟨fun ht4 => ⟨hlab, hdeg, hy.1 ht3, hz.1 ht4⟩, fun hg => hz.2 hg.edges⟩, hE.trans hE5⟩


theorem prGood_ok {w : World} {c d : Sl} {p : Prob} (h : RProb w c d p) :
    Calls Tryz.prog F.s_prGood #[.agg #[.int .i64 p.labels, .int .i64 p.degree, c.v, d.v]] w (Ret [.at .bool] fun (x : Bool) w' => (x = true ↔ PGood p) ∧ Ext w w') := by
  refine C_s_prGood ?_
  unfold V_s_prGood
  refine NEW_intro fun pa w1 hp hs hE hb => LD_bi0 hb ?_
  replace h := h.ext hE
  have hno : ∀ {w' : World}, Ext w w' → ¬ PGood p → (false = true ↔ PGood p) ∧ Ext w w' := fun h1 h2 => ⟨by simp [h2], h1⟩
  refine call (l1In_ok _ _ _ _) ?_
  rintro _ _ ⟨rfl, rfl⟩
  refine cond_b (fun ht => LD_bi1 hb ?_) (fun hf => hno hE fun hg => inR_false hf hg.lab)
  have hlab := inR_true ht
  refine call (l1In_ok _ _ _ _) ?_
  rintro _ _ ⟨rfl, rfl⟩
  refine cond_b (fun ht2 => LD_bs2 hb (LD_bi1 hb (LD_bi0 hb ?_))) (fun hf => hno hE fun hg => inR_false hf hg.deg)
  have hdeg := inR_true ht2
  refine call (prLists_ok h.nodes hlab) ?_
  rintro y w4 ⟨hy, hE4⟩
  replace hE := hE.ext hE4
  replace h := h.ext hE4
  replace hb := hb.ext hE4
  refine cond_b (fun ht3 => LD_bs3 hb (LD_bi0 hb ?_)) (fun hf => hno hE fun hg => by rw [hy.2 hg.nodes] at hf; cases hf)
  refine call (prLists_ok h.edges hlab) ?_
  rintro z w5 ⟨hz, hE5⟩
  exact ⟨⟨fun ht4 => ⟨hlab, hdeg, hy.1 ht3, hz.1 ht4⟩, fun hg => hz.2 hg.edges⟩, hE.trans hE5⟩


/-! ### Configurations that are allowed -/

def NodeOk (p : Prob) (l : List Int) : Prop := sortI l ∈ p.nodes
def EdgeIs (p : Prob) (a b : Int) : Prop := sortI [a, b] ∈ p.edges

theorem sort2 (a b : Int) : sortI [a, b] = if a ≤ b then [a, b] else [b, a] := by
  have hp := sortI_perm [a, b]
  have hs := sortI_sorted [a, b]
  refine (hp.trans ?_).eq_of_pairwise (fun a b _ _ h1 h2 => Int.le_antisymm h1 h2) hs ?_
  · split
    · exact List.Perm.refl _
    · exact List.Perm.swap _ _ _
  · split
    · simp; omega
    · simp; omega

theorem node_ok {w : World} {c d t : Sl} {p : Prob} {l : List Int} (h : RProb w c d p) (hs : SmallP p) (hg : PGood p) (hl : R w t l) (hll : l.length ≤ 1048576) :
    Calls Tryz.prog F.i_Problem_node #[.agg #[.int .i64 p.labels, .int .i64 p.degree, c.v, d.v], t.v] w (Ret [.at .bool] fun (x : Bool) w' => (x = true ↔ NodeOk p l) ∧ Ext w w') := by
  refine C_i_Problem_node ?_
  unfold V_i_Problem_node
  refine NEW_intro fun pa w1 hp hs1 hE hb => LD_bs2 hb ?_
  replace h := h.ext hE
  replace hl := hl.ext hE
  refine call (hasConfiguration_ok h.nodes hl hg.nodes.lt hs.1.1 hll) ?_
  rintro x w2 ⟨rfl, hE2⟩
  exact ⟨by simp [NodeOk], hE.trans hE2⟩

theorem edge_ok {w : World} {c d : Sl} {p : Prob} {a b : Int} (h : RProb w c d p) (hs : SmallP p) (hg : PGood p) (ha : I64 a) (hb0 : I64 b) :
    Calls Tryz.prog F.i_Problem_edge #[.agg #[.int .i64 p.labels, .int .i64 p.degree, c.v, d.v], .int .i64 a, .int .i64 b] w (Ret [.at .bool] fun (x : Bool) w' => (x = true ↔ EdgeIs p a b) ∧ Ext w w') := by
  refine C_i_Problem_edge ?_
  unfold V_i_Problem_edge
  refine NEW_intro fun pa w1 hp hs1 hE hb => LD_bs3 hb ?_
  replace h := h.ext hE
  refine RUN_lits slt_int [a, b] (by simp) (by simp) rfl rfl fun r w2 hE2 hO2 => ?_
  have hE12 := hE.trans hE2
  refine call (hasConfiguration_ok (h.edges.ext hE2) (hO2.rep (by intro x hx; simp at hx; rcases hx with rfl | rfl <;> assumption)).any hg.edges.lt hs.2.1 (by simp)) ?_
  rintro x w3 ⟨rfl, hE3⟩
  exact ⟨by simp [EdgeIs], hE12.trans hE3⟩

theorem most2b (a b : Int) : sortI [a, b] = [if a < b then a else b, most2 a b] := by
  rw [sort2]
  unfold most2
  by_cases h1 : a < b
  · rw [if_pos (by omega), if_pos h1, if_neg (by omega)]
  · by_cases h2 : a = b
    · subst h2; simp
    · rw [if_neg (by omega), if_neg h1, if_pos (by omega)]

end Go.Proofs.YtjfodknpphhajaaGreat
