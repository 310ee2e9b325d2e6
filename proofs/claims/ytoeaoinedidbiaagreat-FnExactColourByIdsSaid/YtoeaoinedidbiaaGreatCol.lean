/- Proper colourings: both sides' tests. -/
import Derived.Test.YtoeaoinedidbiaaGreatEdges
namespace Go.Proofs.YtoeaoinedidbiaaGreat
open Go.GX Go.RowKit
set_option maxRecDepth 100000

/-- Two nodes with an edge between them, the lesser first, that bear the same. -/
def Clash (E : Ends) (l : List Int) : Prop := ∃ v u : Nat, v ≤ u ∧ v < E.length ∧ u < E.length ∧ (u : Int) ∈ adjOf E v ∧ l.getD v 0 = l.getD u 0

theorem mem_adj {E : Ends} {v u : Nat} (hv : v < E.length) : (u : Int) ∈ adjOf E v ↔ ∃ i y, port E v i = some ((u : Int), y) := by
  unfold adjOf
  rw [rowOf_get hv]
  constructor
  · intro h
    obtain ⟨e, he, hu⟩ := List.mem_map.1 h
    obtain ⟨i, hi, rfl⟩ := List.mem_iff_getElem.1 he
    exact ⟨i, E[v][i].2, by rw [port_get hv hi, ← hu]⟩
  · rintro ⟨i, y, h⟩
    obtain ⟨_, hi, he⟩ := port_some h
    exact List.mem_map.2 ⟨E[v][i], List.getElem_mem hi, by rw [he]⟩

/-- Whatever holds of an edge's two nodes, either way round, holds of an edge in the list. -/
theorem exists_edge {n : Net} (hg : Good n) {P : Nat → Nat → Prop} (hs : ∀ a b, P a b → P b a) :
    (∃ q ∈ edgesOf n.ends, P q.1.toNat q.2.2.1.toNat) ↔ ∃ v u : Nat, v < n.ends.length ∧ (u : Int) ∈ adjOf n.ends v ∧ P v u := by
  constructor
  · rintro ⟨q, hq, hp⟩
    obtain ⟨v, i, x, y, rfl, h1, _, hv, hx, _⟩ := edge_at hg hq
    exact ⟨v, x, hv, (mem_adj hv).2 ⟨i, y, h1⟩, by simpa using hp⟩
  · rintro ⟨v, u, hv, hu, hp⟩
    obtain ⟨i, y, h⟩ := (mem_adj hv).1 hu
    obtain ⟨_, hi, he⟩ := port_some h
    obtain ⟨x, b, hxy, hx, hb⟩ := hg.far hv hi
    rw [he] at hxy
    obtain ⟨h1, rfl⟩ : u = x ∧ y = (b : Int) := by
      have h1 := congrArg Prod.fst hxy
      have h2 := congrArg Prod.snd hxy
      simp at h1 h2
      exact ⟨by omega, h2⟩
    subst h1
    by_cases hf : isFirst v i ((u : Int), (b : Int)) = true
    · exact ⟨_, mem_edgesOf.2 ⟨v, i, _, h, hf, rfl⟩, by simpa using hp⟩
    · refine ⟨_, mem_edgesOf.2 ⟨u, b, _, hb, ?_, rfl⟩, by simpa using hs _ _ hp⟩
      simp [isFirst] at hf ⊢
      omega

theorem clash_iff {n : Net} (hg : Good n) (l : List Int) : Clash n.ends l ↔ ∃ q ∈ edgesOf n.ends, l.getD q.1.toNat 0 = l.getD q.2.2.1.toNat 0 := by
  rw [exists_edge hg (P := fun a b => l.getD a 0 = l.getD b 0) (fun a b h => h.symm)]
  constructor
  · rintro ⟨v, u, _, hv, _, h1, h2⟩
    exact ⟨v, u, hv, h1, h2⟩
  · rintro ⟨v, u, hv, h1, h2⟩
    obtain ⟨x, hx, hx'⟩ := adj_ok hg hv _ h1
    have hu : u < n.ends.length := by omega
    rcases Nat.le_total v u with h3 | h3
    · exact ⟨v, u, h3, hv, hu, h1, h2⟩
    · refine ⟨u, v, h3, hu, hv, ?_, h2.symm⟩
      obtain ⟨i, y, h⟩ := (mem_adj hv).1 h1
      obtain ⟨_, hi, he⟩ := port_some h
      obtain ⟨x', b, hxy, _, hb⟩ := hg.far hv hi
      rw [he] at hxy
      have h4 := congrArg Prod.fst hxy
      simp at h4
      obtain rfl : u = x' := by omega
      exact (mem_adj hu).2 ⟨b, _, hb⟩

theorem isColouring1_ok {n : Net} (hg : Good n) {l : List Int} (hlen : l.length = n.ends.length) {w : World} {s : Sl} {p : Addr} {t : TypeId} (hl : R w s l) (hb : Box w p t [s.v]) :
    AnswersG argsQ w (.func (.func F.i_isColouring_1) #[] #[.pointer (some p)]) (edgesOf n.ends) (fun q => decide (l.getD q.1.toNat 0 = l.getD q.2.2.1.toNat 0)) := by
  intro q hq w1 hE1
  replace hl := hl.ext hE1
  replace hb := hb.ext hE1
  obtain ⟨v, i, x, y, rfl, _, _, hv, hx, _⟩ := edge_at hg hq
  refine CALLV_mk (by kernel_rfl) (C_i_isColouring_1 ?_)
  unfold V_i_isColouring_1
  refine NEW_intro fun p1 w2 hp1 hs2 hE2 hb2 => ?_
  replace hl := hl.ext hE2
  replace hb := hb.ext hE2
  refine LD_bs hb (LD_bi0 hb2 ?_)
  have hv' : v < l.length := by omega
  have hx' : x < l.length := by omega
  refine hl.ixI hv' fun q _ hc => LD_int hc (LD_bs hb (LD_bi2 hb2 ?_))
  refine hl.ixI hx' fun q _ hc => LD_int hc ?_
  intro w3 hE3
  refine ⟨?_, hE2.trans hE3⟩
  rw [Bool.eq_iff_iff]
  simp [hv', hx']

def Proper (n : Net) (l : List Int) : Prop := l.length = n.ends.length ∧ AllIn l 0 1000000000000 ∧ ¬ Clash n.ends l

theorem isColouring_ok {w : World} {a b c s : Sl} {n : Net} {l : List Int} (h : RNet w a b c n) (hl : R w s l) (hg : Good n) :
    Calls Tryz.prog F.i_isColouring #[.agg #[a.v, b.v, c.v], s.v] w (Ret [.at .bool] fun (x : Bool) w' => (x = true ↔ Proper n l) ∧ Ext w w') := by
  refine C_i_isColouring ?_
  unfold V_i_isColouring
  refine NEW_intro fun p w1 hp hs hE hb1 => ?_
  replace h := h.ext hE
  replace hl := hl.ext hE
  refine NEW_intro fun p2 w2 hp2 hs2 hE2 hb2 => ?_
  replace h := h.ext hE2
  replace hl := hl.ext hE2
  replace hb1 := hb1.ext hE2
  replace hE := hE.ext hE2
  refine LD_bs hb2 (LD_bs0 hb1 ?_)
  rw [hl.len, h.1.len]
  refine cond_eq (fun he => ?_) (fun hne => ⟨?_, hE⟩)
  · have hlen : l.length = n.ends.length := by omega
    refine LD_bs hb2 ?_
    refine call (allWithin_ok hl _ _) ?_
    rintro x w3 ⟨hx, hE3⟩
    replace h := h.ext hE3
    replace hl := hl.ext hE3
    replace hb1 := hb1.ext hE3
    replace hb2 := hb2.ext hE3
    replace hE := hE.ext hE3
    refine cond_b (fun ht => LD_box3 hb1 ?_) (fun hf => ⟨?_, hE⟩)
    · refine call (edges_ok h hg) ?_
      rintro r w4 ⟨hE4, hO⟩
      replace h := h.ext hE4
      replace hl := hl.ext hE4
      replace hb2 := hb2.ext hE4
      replace hE := hE.ext hE4
      refine call (containsFuncQ_ok (hO.rep (edge_I64 hg)).any (isColouring1_ok hg hlen hl hb2)) ?_
      rintro y w5 ⟨rfl, hE5⟩
      replace hE := hE.ext hE5
      refine ⟨?_, hE⟩
      have hall := hx.1 ht
      have hc := clash_iff hg l
      rw [Bool.not_eq_true', List.any_eq_false]
      unfold Proper
      simp only [hlen, hall, hc, true_and, decide_eq_true_eq]
      simp
    · simp only [Bool.false_eq_true, false_iff]
      intro hP
      rw [hx.2 hP.2.1] at hf; cases hf
  · simp only [Bool.false_eq_true, false_iff]
    intro hP; have := hP.1; omega

theorem imEdge_ok {w : World} {a b c s : Sl} {n : Net} {l : List Int} (h : RNet w a b c n) (hl : R w s l) (hg : Good n) (hlen : l.length = n.ends.length) :
    Calls Tryz.prog F.s_imEdge #[.agg #[a.v, b.v, c.v], s.v] w (Ret [.at (.int .i64), .at (.int .i64), .at .bool] fun (_ _ : Int) (x : Bool) w' => (x = true ↔ Clash n.ends l) ∧ Ext w w') := by
  refine C_s_imEdge ?_
  unfold V_s_imEdge
  refine NEW_intro fun p w1 hp hs hE hb1 => LD_bs0 hb1 ?_
  replace h := h.ext hE
  replace hl := hl.ext hE
  rw [h.1.len]
  have hN := h.1.le
  refine ⟨IN n.ends.length fun v w' => Ext w1 w' ∧ ∀ x < v, ∀ u : Nat, x ≤ u → u < n.ends.length → (u : Int) ∈ adjOf n.ends x → l.getD x 0 ≠ l.getD u 0, MN n.ends.length, IN_zero ⟨Ext.refl _, fun u hu => absurd hu (by omega)⟩, ?_⟩
  rintro _ w2 ⟨v, rfl, hv, hE2, hI⟩
  intros
  replace h := h.ext hE2
  replace hl := hl.ext hE2
  replace hb1 := hb1.ext hE2
  replace hE := hE.ext hE2
  refine cond_dec (fun hlt => LD_box3 hb1 ?_) (fun hge => ⟨?_, hE⟩)
  · have hv' : v < n.ends.length := by omega
    refine call (neNear_ok h hg hv') ?_
    rintro r w3 ⟨hE3, hO⟩
    replace h := h.ext hE3
    replace hl := hl.ext hE3
    replace hb1 := hb1.ext hE3
    replace hE := hE.ext hE3
    replace hE2 := hE2.ext hE3
    have hR := (hO.rep (adj_I64 hg hv')).any
    refine ⟨IN n.ends.length fun u w' => Ext w3 w' ∧ v ≤ u ∧ ∀ x : Nat, v ≤ x → x < u → (x : Int) ∈ adjOf n.ends v → l.getD v 0 ≠ l.getD x 0, MN n.ends.length, ⟨v, rfl, by omega, Ext.refl _, Nat.le_refl _, fun x h1 h2 => absurd h2 (by omega)⟩, ?_⟩
    rintro _ w4 ⟨u, rfl, hu, hE4, hvu, hJ⟩
    intros
    replace h := h.ext hE4
    replace hl := hl.ext hE4
    replace hb1 := hb1.ext hE4
    replace hE := hE.ext hE4
    replace hE2 := hE2.ext hE4
    replace hR := hR.ext hE4
    refine LD_bs0 hb1 ?_
    rw [h.1.len]
    have hnext : ∀ w5, Ext w4 w5 → u < n.ends.length → ((u : Int) ∈ adjOf n.ends v → l.getD v 0 ≠ l.getD u 0) → IN n.ends.length (fun u w' => Ext w3 w' ∧ v ≤ u ∧ ∀ x : Nat, v ≤ x → x < u → (x : Int) ∈ adjOf n.ends v → l.getD v 0 ≠ l.getD x 0) (IntKind.i64.wrap ((u : Int) + 1)) w5 ∧ MN n.ends.length (IntKind.i64.wrap ((u : Int) + 1)) w5 < MN n.ends.length u w4 := by
      intro w5 hE5 hul hn
      refine IN_next hN hul ⟨hE4.trans hE5, by omega, fun x h1 h2 => ?_⟩
      rcases Nat.lt_or_eq_of_le (Nat.le_of_lt_succ h2) with h5 | h5
      · exact hJ x h1 h5
      · subst h5; exact hn
    refine cond_dec (fun hlt2 => ?_) (fun hge2 => ?_)
    · have hul : u < n.ends.length := by omega
      have hvl : v < l.length := by omega
      have hull : u < l.length := by omega
      refine QCALL_bool _ (fun w' hw' => call (l1Has_ok (hR.ext hw') _) (by rintro b _ ⟨rfl, rfl⟩; exact ⟨rfl, Ext.refl _⟩)) ?_
      refine cond_b (fun ht => ?_) (fun hf w5 hE5 => hnext w5 hE5 hul (fun hm => by simp [hm] at hf))
      refine hl.ixI hvl fun q _ hc => LD_int hc ?_
      refine hl.ixI hull fun q _ hc => LD_int hc ?_
      intro w5 hE5
      refine cond_eq (fun he => ⟨?_, hE.trans hE5⟩) (fun hne => hnext w5 hE5 hul (fun _ => by simpa [hvl, hull] using hne))
      simp only [true_iff]
      exact ⟨v, u, hvu, hv', hul, by simpa using ht, by simpa [hvl, hull] using he⟩
    · refine IN_next hN hv' ⟨hE2, all_succ hI (fun x h1 h2 h3 => hJ x h1 (by omega) h3)⟩
  · simp only [Bool.false_eq_true, false_iff]
    rintro ⟨v', u, h1, h2, h3, h4, h5⟩
    exact hI v' (by omega) u h1 h3 h4 h5

theorem clProper_ok {w : World} {a b c s : Sl} {n : Net} {l : List Int} (h : RNet w a b c n) (hl : R w s l) (hg : Good n) :
    Calls Tryz.prog F.s_clProper #[.agg #[a.v, b.v, c.v], s.v] w (Ret [.at .bool] fun (x : Bool) w' => (x = true ↔ Proper n l) ∧ Ext w w') := by
  refine C_s_clProper ?_
  unfold V_s_clProper
  refine NEW_intro fun p w1 hp hs hE hb1 => LD_bs0 hb1 ?_
  replace h := h.ext hE
  replace hl := hl.ext hE
  rw [hl.len, h.1.len]
  refine cond_ne (fun hne => ⟨?_, hE⟩) (fun he => ?_)
  · simp only [Bool.false_eq_true, false_iff]
    intro hP; have := hP.1; omega
  have hlen : l.length = n.ends.length := by omega
  refine call (l1All_ok hl _ _) ?_
  rintro x _ ⟨hx, rfl⟩
  refine cond_not (fun hf => ⟨?_, hE⟩) (fun ht => LD_box3 hb1 ?_)
  · simp only [Bool.false_eq_true, false_iff]
    intro hP
    rw [hx.2 hP.2.1] at hf; cases hf
  refine call (imEdge_ok h hl hg hlen) ?_
  rintro _ _ y w2 ⟨hy, hE2⟩
  refine ⟨?_, hE.trans hE2⟩
  rw [Bool.not_eq_true', ← Bool.not_eq_true, hy]
  unfold Proper
  simp only [hlen, hx.1 ht, true_and]

end Go.Proofs.YtoeaoinedidbiaaGreat
