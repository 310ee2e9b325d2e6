/- Own texts, merged: WalkS4, WalkS5, FlexPure, Levels, Concat, Cy5, SolveCycleWalk, Door, CardFrame. -/
import Derived.Test.YtaeledhbkdakcaaGreatDoorM4
import Derived.Test.YtaeledhbkdakcaaGreatDoorRows
import Derived.KernelRfl
import Derived.JoinedOf
import Derived.HandedShaped
import Derived.Handed
import Derived.Shelf.Vars
import Derived.Lib.LaidTab
import Derived.MakeChecks
import Derived.LaidMore
import Derived.Lay
import Derived.Stop.Joined
import Derived.LaidLaws
set_option linter.unusedVariables false
section
/- Walk problems, the reference: components, flexible labels. -/
namespace Go.Proofs.YtaeledhbkdakcaaGreatDoor
open Go.GX Go.RowKit
set_option maxRecDepth 100000

structure WRec where
  a : Sl
  p : Int
  b : Sl

instance : Rep WRec where
  sz := 3
  rep _ _ cs r := cs = [r.a.v, .int .i64 r.p, r.b.v]
  len h := by rw [h]; rfl
  agr _ h := h
  weak _ h := h
instance : RepP WRec := ⟨by decide⟩
theorem one3w (x : Sl) (y : Int) (z : Sl) : ∀ v ∈ [x.v, Value.int .i64 y, z.v], v.oneCell' = true := by intro v hv; simp at hv; rcases hv with rfl | rfl | rfl <;> rfl
instance : Flat WRec where
  cells r := [r.a.v, .int .i64 r.p, r.b.v]
  ok _ := True
  size _ := rfl
  one r v hv := one3w r.a r.p r.b v hv
  repOk _ := rfl
  ofRep h := ⟨h, trivial⟩

theorem slt_part : SlT Tryz.prog T.t_sl_s_waPart T.t_s_waPart 3 56 (.agg #[.slice none 0 0, .int .i64 0, .slice none 0 0]) := ⟨by kernel_rfl, by kernel_rfl, rfl, by decide⟩

theorem LD_sis {w : World} {p : Addr} {t : TypeId} {x : Sl} {y : Int} {z : Sl} {r : List Value} {K : Sl → Int → Sl → Prop} (hb : Box w p t (x.v :: .int .i64 y :: z.v :: r)) (hk : K x y z) : LD [.sl, .int .i64, .sl] p w K := by
  refine ⟨[x.v, .int .i64 y, z.v], rfl, fun i v hv => ?_, hk⟩
  match i, hv with
  | 0, hv => exact hb.cell (i := 0) hv
  | 1, hv => exact hb.cell (i := 1) hv
  | 2, hv => exact hb.cell (i := 2) hv
  | i + 3, hv => simp at hv

theorem _root_.Go.GX.Chg.then' {a b c : World} {D D' : Nat → Prop} (h : Chg a b D) (k : Chg b c D') (hD : ∀ x, x < a.heap.size → D' x → D x) : Chg a c D :=
  ⟨k.os.trans h.os, k.tape.trans h.tape, k.output.trans h.output, Nat.le_trans h.size k.size, fun x hx hn => (k.block x (Nat.lt_of_lt_of_le hx h.size) fun hd => hn (hD x hx hd)).trans (h.block x hx hn)⟩

/-- What is known of the parts. -/
structure PartIs (E : Nat → Nat → Prop) (r : Nat) (P : Int) : Prop where
  ex : ∃ q : Nat, P = q ∧ q ≤ 100 ∧ (q = 1 ↔ Flex E r)
structure PartsO (base : Nat) (w : World) (s : Sl) (E : Nat → Nat → Prop) (n : Nat) (rs : List Nat) : Prop where
  ex : ∃ recs : List WRec, OwnL w base T.t_s_waPart s recs ∧ recs.length = rs.length ∧ ∀ j (h1 : j < recs.length) (h2 : j < rs.length), SlR (fun b => base ≤ b ∧ s.v.ownBlock ≠ some b) w recs[j].a (compL E n rs[j]) ∧ PartIs E rs[j] recs[j].p

theorem PartsO.nil (base : Nat) (w : World) (E : Nat → Nat → Prop) (n : Nat) : PartsO base w ⟨none, 0, 0⟩ E n [] := ⟨[], OwnL.nil _ _ _, rfl, fun j h1 => by simp at h1⟩
theorem PartsO.keep {base : Nat} {w w' : World} {s : Sl} {E : Nat → Nat → Prop} {n : Nat} {rs : List Nat} (h : PartsO base w s E n rs) {D : Nat → Prop} (hC : Chg w w' D) (hD : ∀ b, base ≤ b → ¬ D b) : PartsO base w' s E n rs := by
  obtain ⟨recs, hO, hl, hr⟩ := h.ex
  exact ⟨recs, hO.keep fun b hb => hC.block b (hO.blk b hb).2 (hD b (hO.blk b hb).1), hl, fun j h1 h2 => ⟨(hr j h1 h2).1.chg hC fun b hb _ => hD b hb.1, (hr j h1 h2).2⟩⟩

theorem RUN_append_part {base b1 : Nat} {w w1 : World} {s y la lb : Sl} {E : Nat → Nat → Prop} {n r : Nat} {rs : List Nat} {P : Int} (h : PartsO base w s E n rs) (hbase : base ≤ w.heap.size) (hE : Ext w w1) (hla : SlR (fun b => base ≤ b ∧ s.v.ownBlock ≠ some b) w1 la (compL E n r)) (hP : PartIs E r P) (hl : rs.length ≤ 100)
    (hy : OwnL w1 b1 T.t_s_waPart y [(⟨la, P, lb⟩ : WRec)]) {K : Sl → World → Prop} (hk : ∀ s' w2, PartsO base w2 s' E n (rs ++ [r]) → Step w1 w2 s.v.ownBlock → K s' w2) : RUN Tryz.prog (.at .sl) (bsem .append #[T.t_sl_s_waPart, T.t_sl_s_waPart] T.t_sl_s_waPart #[s.v, y.v]) w1 K := by
  obtain ⟨recs, hO, hrl, hr⟩ := h.ex
  have hO1 := hO.ext hE
  have hsz := hE.size_le
  refine RUN_appendF (α := WRec) slt_part hO1 (by omega) (hy.rep fun _ _ => trivial) (by simp; omega) (by simp; unfold maxLen; omega) fun s' w2 hO2 hs2 hN => hk s' w2 ⟨_, hO2, by simp [hrl], fun j h1 h2 => ?_⟩ hs2
  have hw : ∀ b, s.v.ownBlock ≠ some b → b < w1.heap.size → s'.v.ownBlock ≠ some b := fun b hb hlt he => by
    rcases hN with hN | hN
    · exact hb (hN ▸ he)
    · have := hN b he; omega
  have main : ∀ {t : Sl} {l : List Int}, SlR (fun b => base ≤ b ∧ s.v.ownBlock ≠ some b) w1 t l → SlR (fun b => base ≤ b ∧ s'.v.ownBlock ≠ some b) w2 t l := fun {t l} hR =>
    (SlR.stepD (hR.weak (D' := fun b => s.v.ownBlock ≠ some b ∧ base ≤ b ∧ s'.v.ownBlock ≠ some b) (fun b h3 h4 => ⟨h3.2, h3.1, hw b h3.2 h4⟩) RepP.pos) hs2 (fun b hb => hb.1)).weak (fun b hb _ => hb.2) RepP.pos
  by_cases hj : j < recs.length
  · have hjl : j < rs.length := by omega
    rw [List.getElem_append_left hj, List.getElem_append_left hjl]
    exact ⟨main ((hr j hj hjl).1.ext hE), (hr j hj hjl).2⟩
  · have hjl : j = rs.length := by simp at h2; omega
    subst hjl
    have e1 : (recs ++ [(⟨la, P, lb⟩ : WRec)])[rs.length]'h1 = ⟨la, P, lb⟩ := by
      rw [List.getElem_append_right (by omega)]; simp [hrl]
    have e2 : (rs ++ [r])[rs.length]'h2 = r := by
      rw [List.getElem_append_right (by omega)]; simp
    rw [e1, e2]
    exact ⟨main hla, hP⟩

theorem slr_ixW {D : Nat → Prop} {w : World} {s : Sl} {l : List Int} (h : SlR D w s l) {i : Nat} (hi : i < l.length) {K : Addr → Prop} (hk : ∀ p, D p.block → w.cell? p = some (.int .i64 l[i]) → K p) : IX s i 1 K := by
  obtain ⟨a, cs, ha, hD, ⟨rfl, _⟩, hc⟩ := h.2.2 i l[i] (by simp [hi])
  have hl := h.1
  exact ⟨a, ha, by omega, by omega, hk _ (by rw [add_block]; exact hD) (hc 0 _ rfl)⟩

/-- A store of one cell into a box, told as a change. -/
theorem ST_boxC {w w0 : World} {p : Addr} {t : TypeId} {cs : List Value} {i : Nat} {v : Value} {K : World → Prop} (h : Box w p t cs) (hi : i < cs.length) (h1 : v.oneCell' = true) (hE : Ext w0 w) (hp : w0.heap.size ≤ p.block)
    (hk : ∀ w', Chg w w' (fun c => c = p.block) → Ext w0 w' → Box w' p t (cs.set i v) → K w') : GX.ST (p.add i) 0 [v] w K :=
  ST_box1 h hi h1 fun w' hz hb hX hB => by
    have hE' := hX w0 hE hp
    exact hk w' ⟨hE'.os.trans hE.os.symm, hE'.tape.trans hE.tape.symm, hE'.output.trans hE.output.symm, by omega, fun k _ hn => hb k hn⟩ hE' hB
theorem compL_succ (E : Nat → Nat → Prop) (b r : Nat) [Decidable (Comp E r b)] : compL E (b + 1) r = compL E b r ++ (if Comp E r b then [(b : Int)] else []) := by
  classical
  unfold compL
  rw [List.range_succ, List.filter_append, List.map_append]
  by_cases h : Comp E r b
  · simp [h]
  · simp [h]

theorem comp_reach {E : Nat → Nat → Prop} {a b : Nat} (ha : ∃ k, 0 < k ∧ Wk E k a a) : (reachE E a b ∧ reachE E b a) ↔ Comp E a b := by
  constructor
  · rintro ⟨⟨j, _, p⟩, i, _, q⟩
    exact ⟨⟨j, p⟩, i, q⟩
  · rintro ⟨⟨j, p⟩, i, q⟩
    obtain ⟨k, hk, hw⟩ := ha
    exact ⟨⟨k + j, by omega, hw.cat p⟩, i + k, by omega, q.cat hw⟩

/-- One part, from its label on. -/
theorem waParts_k4 {w2 w3 w4 : World} {s15 s18 x4 s : Sl} {p : WPr} {px1 : Addr} {a n : Nat} {rs : List Nat} (h2 : RWk w2 s p) (hg : WGood p) (hnn : p.labels.toNat = n) (hb1 : Box w2 px1 T.t_i_WalkProblem [.int .i64 p.labels, s.v])
    (hE24 : Ext w2 w4) (hR15 : R w2 s15 (matB n (reachE (arcE p.arcs)))) (hz23 : w2.heap.size ≤ w3.heap.size) (hz34 : w3.heap.size ≤ w4.heap.size) (h18b : ∀ k, oB s18 k → w2.heap.size ≤ k ∧ k < w3.heap.size)
    (hO18 : OwnL w4 w2.heap.size T.t_bool s18 (rowB n fun b => ∃ r ∈ rs, Comp (arcE p.arcs) r b)) (hX4 : PartsO w3.heap.size w4 x4 (arcE p.arcs) n rs) (han : a < n) (hrs : Roots (arcE p.arcs) a rs) (hca : ∃ k, 0 < k ∧ Wk (arcE p.arcs) k a a) (hnc : ∀ r ∈ rs, ¬ Comp (arcE p.arcs) r a)
    {I5 : Sl → Int → World → Prop} {m5 : Sl → Int → World → Nat} {wm : World}
    (hk : ∀ x4' w', Ext w2 w' → w3.heap.size ≤ w'.heap.size → OwnL w' w2.heap.size T.t_bool s18 (rowB n fun b => ∃ r ∈ rs ++ [a], Comp (arcE p.arcs) r b) → PartsO w3.heap.size w' x4' (arcE p.arcs) n (rs ++ [a]) → I5 x4' (IntKind.i64.wrap ((a : Int) + 1)) w' ∧ m5 x4' (IntKind.i64.wrap ((a : Int) + 1)) w' < m5 x4 (a : Int) wm) : V_s_waParts_k4 I5 m5 wm px1 s15 s18 x4 (a : Int) w4 := by
  have hl := hg.lab
  have hn12 : n ≤ 12 := by omega
  have hlab : p.labels = (n : Int) := by omega
  have hrel : ∀ x y, arcE p.arcs x y → y < n := fun x y hxy => by have := (hg.rel hxy).2; omega
  have hdep := fun {w : World} {t : Sl} {r : Nat} {C : List Int} (h' : RWk w s p) (hC : R w t C) => waDepths_ok (r := r) h' hg hC
  simp only [hnn] at hdep
  unfold V_s_waParts_k4
  refine NEW_intro fun px7 w6 hp7 hs6 hE6 hb6 => ?_
  refine ST_all hb6 (one3w ⟨none, 0, 0⟩ 0 ⟨none, 0, 0⟩) rfl fun w7 hs7 hz7 hb7 => ?_
  have hE47 : Ext w4 w7 := hs7.ext0 hE6 fun k hk => by cases hk; omega
  have hz47 := hE47.size_le
  have hlt7 := hb7.lt
  have hp7b : w4.heap.size ≤ px7.block := by omega
  generalize hEe : arcE p.arcs = E at *
  have h18ne : ∀ k, oB s18 k → k ≠ px7.block := fun k hk he => by have := (h18b k hk).2; omega
  have rd2 : ∀ {w' : World}, Chg w7 w' (fun c => oB s18 c ∨ w4.heap.size ≤ c) → Ext w2 w' := fun hC => hC.ext0 (hE24.trans hE47) fun k hk => by
    rcases hk with hk | hk
    · exact (h18b k hk).1
    · omega
  -- the labels
  refine ⟨fun (x : Int) w' => ∃ (b : Nat) (lab : Sl), x = b ∧ b ≤ n ∧ Chg w7 w' (fun c => oB s18 c ∨ c = px7.block) ∧ Box w' px7 T.t_s_waPart [lab.v, .int .i64 0, (⟨none, 0, 0⟩ : Sl).v] ∧ OwnL w' w7.heap.size T.t_int lab (compL E b a) ∧ OwnL w' w2.heap.size T.t_bool s18 (rowB n fun c => (∃ r ∈ rs, Comp E r c) ∨ (c < b ∧ Comp E a c)), fun x _ => n - x.toNat, ⟨0, ⟨none, 0, 0⟩, rfl, by omega, Chg.refl _ _, hb7, ?_, ?_⟩, ?_⟩
  · have e : compL E 0 a = [] := by simp [compL]
    rw [e]; exact OwnL.nil _ _ _
  · have e : (rowB n fun c => (∃ r ∈ rs, Comp E r c) ∨ (c < 0 ∧ Comp E a c)) = rowB n fun c => ∃ r ∈ rs, Comp E r c := rowB_congr fun c _ => ⟨fun hh => hh.resolve_right fun hx => by omega, .inl⟩
    rw [e]; exact hO18.ext hE47
  rintro _ w8 ⟨b, lab, rfl, hbn, hC8, hb8, hOl, hO8⟩
  intros
  have hE28 : Ext w2 w8 := rd2 (hC8.mono fun c hc => hc.imp id fun he => by omega)
  have hb18 := hb1.ext hE28
  have hz8 := hC8.size
  refine LD_bi0 hb18 (cond_dec (fun hlt => ?_) (fun hge => ?_))
  · have hb' : b < n := by omega
    have hm15 : (matB n (reachE E)).length = n := matB_len _ _
    have next : ∀ {lab' : Sl} {w' : World}, Chg w7 w' (fun c => oB s18 c ∨ c = px7.block) → Box w' px7 T.t_s_waPart [lab'.v, .int .i64 0, (⟨none, 0, 0⟩ : Sl).v] → OwnL w' w7.heap.size T.t_int lab' (compL E (b + 1) a) → OwnL w' w2.heap.size T.t_bool s18 (rowB n fun c => (∃ r ∈ rs, Comp E r c) ∨ (c < b + 1 ∧ Comp E a c)) → (∃ (b' : Nat) (lab : Sl), IntKind.i64.wrap ((b : Int) + 1) = b' ∧ b' ≤ n ∧ Chg w7 w' (fun c => oB s18 c ∨ c = px7.block) ∧ Box w' px7 T.t_s_waPart [lab.v, .int .i64 0, (⟨none, 0, 0⟩ : Sl).v] ∧ OwnL w' w7.heap.size T.t_int lab (compL E b' a) ∧ OwnL w' w2.heap.size T.t_bool s18 (rowB n fun c => (∃ r ∈ rs, Comp E r c) ∨ (c < b' ∧ Comp E a c))) ∧ n - (IntKind.i64.wrap ((b : Int) + 1)).toNat < n - ((b : Int)).toNat := fun k1 k2 k3 k4 => by
      rw [wrap_of (by omega) (by omega)]
      exact ⟨⟨b + 1, _, by omega, by omega, k1, k2, k3, k4⟩, by omega⟩
    classical
    have no : ¬ Comp E a b → (∃ (b' : Nat) (lab : Sl), IntKind.i64.wrap ((b : Int) + 1) = b' ∧ b' ≤ n ∧ Chg w7 w8 (fun c => oB s18 c ∨ c = px7.block) ∧ Box w8 px7 T.t_s_waPart [lab.v, .int .i64 0, (⟨none, 0, 0⟩ : Sl).v] ∧ OwnL w8 w7.heap.size T.t_int lab (compL E b' a) ∧ OwnL w8 w2.heap.size T.t_bool s18 (rowB n fun c => (∃ r ∈ rs, Comp E r c) ∨ (c < b' ∧ Comp E a c))) ∧ n - (IntKind.i64.wrap ((b : Int) + 1)).toNat < n - ((b : Int)).toNat := fun hno => by
      refine next hC8 hb8 (by rw [compL_succ, if_neg hno, List.append_nil]; exact hOl) ?_
      have e : (rowB n fun c => (∃ r ∈ rs, Comp E r c) ∨ (c < b + 1 ∧ Comp E a c)) = rowB n fun c => (∃ r ∈ rs, Comp E r c) ∨ (c < b ∧ Comp E a c) := rowB_congr fun c _ => ⟨fun hh => hh.imp id fun ⟨h1, h2⟩ => ⟨by
        by_cases he : c = b
        · subst he; exact absurd h2 hno
        · omega, h2⟩, fun hh => hh.imp id fun ⟨h1, h2⟩ => ⟨by omega, h2⟩⟩
      rw [e]; exact hO8
    refine (hR15.ext hE28).ixL (i := a) (by omega) fun q row hrow hc => LD_sl hc ?_
    rw [matB_get (by omega)] at hrow
    have hbl : b < (rowB n (reachE E a)).length := by rw [rowB_len]; exact hb'
    refine hrow.any.ixB hbl fun q2 hc2 => LD_bool hc2 ?_
    have h1 := rowB_get hbl
    generalize (rowB n (reachE E a))[b] = v1 at h1
    refine cond_b (fun ht1 => ?_) (fun hf1 => no fun hc => by rw [h1.2 ((comp_reach hca).2 hc).1] at hf1; cases hf1)
    refine (hR15.ext hE28).ixL (i := b) (by omega) fun q3 row2 hrow2 hc3 => LD_sl hc3 ?_
    rw [matB_get (by omega)] at hrow2
    have hal : a < (rowB n (reachE E b)).length := by rw [rowB_len]; exact han
    refine hrow2.any.ixB hal fun q4 hc4 => LD_bool hc4 ?_
    have h3 := rowB_get hal
    generalize (rowB n (reachE E b))[a] = v2 at h3
    refine cond_b (fun ht2 => ?_) (fun hf2 => no fun hc => by rw [h3.2 ((comp_reach hca).2 hc).2] at hf2; cases hf2)
    have hcb : Comp E a b := (comp_reach hca).1 ⟨h1.1 ht1, h3.1 ht2⟩
    refine LD_bs0 hb8 ?_
    refine RUN_lit1 (α := Int) slt_int (b : Int) rfl (by decide) fun y w9 hE9 hO9 => ?_
    have hcl := compL_len E b a
    have hz9 := hE9.size_le
    refine RUN_append (α := Int) slt_int (hOl.ext hE9) (by omega) (hO9.rep (by intro x hx; rw [List.mem_singleton.1 hx]; show I64 _; unfold GX.I64; omega)).any (by simp; omega) (by simp [maxLen]; omega) fun lab' w10 hO10 hs10 => ?_
    have hz10 := hs10.size
    have hlabne : ∀ k, lab.v.ownBlock = some k → k ≠ px7.block := fun k hk he => by have := (hOl.blk k hk).1; omega
    have hlab18 : ∀ k, lab.v.ownBlock = some k → ¬ oB s18 k := fun k hk hh => by have := (hOl.blk k hk).1; have := (h18b k hh).2; omega
    have hb10 : Box w10 px7 T.t_s_waPart [lab.v, .int .i64 0, (⟨none, 0, 0⟩ : Sl).v] := (hb8.ext hE9).chg (D := oB lab) (.of_step hs10 fun k hk => hk) fun hh => hlabne _ hh rfl
    have hC9_10 : Chg w9 w10 (oB lab) := .of_step hs10 fun k hk => hk
    have hC7_10 : Chg w7 w10 (fun c => oB s18 c ∨ c = px7.block) := (hC8.trans (.of_ext hE9)).then' hC9_10 fun k hk hd => by have := (hOl.blk k hd).1; omega
    have hE2_10 : Ext w2 w10 := rd2 (hC7_10.mono fun c hc => hc.imp id fun he => by omega)
    have hz24 := hE24.size_le
    refine ST_boxC hb10 (by simp) rfl hE2_10 (by omega) fun w11 hC11 _ hb11 => ?_
    have hO18_11 : OwnL w11 w2.heap.size T.t_bool s18 (rowB n fun c => (∃ r ∈ rs, Comp E r c) ∨ (c < b ∧ Comp E a c)) := ((hO8.ext hE9).keep fun k hk => hs10.block k ((hO8.ext hE9).blk k hk).2 fun he => hlab18 k he.symm hk).keep fun k hk => hC11.block k (by have := (h18b k hk).2; omega) (h18ne k hk)
    have hOl11 : OwnL w11 w7.heap.size T.t_int lab' (compL E b a ++ [(b : Int)]) := hO10.keep fun k hk => hC11.block k (hO10.blk k hk).2 fun he => by have := (hO10.blk k hk).1; omega
    have hbl2 : b < (rowB n fun c => (∃ r ∈ rs, Comp E r c) ∨ (c < b ∧ Comp E a c)).length := by rw [rowB_len]; exact hb'
    refine IX_own hO18_11 hbl2 rfl fun q5 hq5 => ?_
    refine ST_own hO18_11 hbl2 hq5 true rfl fun w12 hO12 hs12 => ?_
    rw [rowB_set (Q := fun c => (∃ r ∈ rs, Comp E r c) ∨ (c < b + 1 ∧ Comp E a c)) ⟨fun _ => .inr ⟨by omega, hcb⟩, fun _ => rfl⟩ (fun c hc hne => ⟨fun hh => hh.imp id fun ⟨h1, h2⟩ => ⟨by omega, h2⟩, fun hh => hh.imp id fun ⟨h1, h2⟩ => ⟨by omega, h2⟩⟩)] at hO12
    have hC7_12 := (hC7_10.trans (hC11.mono fun c hc => .inr hc)).trans (.of_step hs12 fun k hk => .inl hk)
    refine next hC7_12 (hb11.chg (D := oB s18) (.of_step hs12 fun k hk => hk) fun hh => h18ne _ hh rfl) ?_ hO12
    rw [compL_succ, if_pos hcb]
    exact hOl11.keep fun k hk => hs12.block k (hOl11.blk k hk).2 fun he => by have h1 := (hOl11.blk k hk).1; have h2 := (h18b k he.symm).2; omega
  · have : b = n := by omega
    subst this
    have hO8' : OwnL w8 w2.heap.size T.t_bool s18 (rowB b fun c => ∃ r ∈ rs ++ [a], Comp E r c) := by
      have e : (rowB b fun c => (∃ r ∈ rs, Comp E r c) ∨ (c < b ∧ Comp E a c)) = rowB b fun c => ∃ r ∈ rs ++ [a], Comp E r c := rowB_congr fun c hc => ⟨fun hh => by
        rcases hh with ⟨r, h1, h2⟩ | ⟨_, h2⟩
        · exact ⟨r, List.mem_append_left _ h1, h2⟩
        · exact ⟨a, by simp, h2⟩, fun ⟨r, h1, h2⟩ => by
        rcases List.mem_append.1 h1 with h1 | h1
        · exact .inl ⟨r, h1, h2⟩
        · rw [List.mem_singleton.1 h1] at h2; exact .inr ⟨hc, h2⟩⟩
      rw [e] at hO8; exact hO8
    refine LD_is hb18 (LD_bs0 hb8 ?_)
    have hC64 : ∀ x ∈ compL E b a, I64 x := fun x hx => by
      obtain ⟨c, rfl, hc, _⟩ := compL_mem.1 hx
      unfold GX.I64; omega
    have hRl8 : R w8 lab (compL E b a) := (hOl.rep hC64).any
    have hcl := compL_len E b a
    have h0C : 0 < (compL E b a).length := List.length_pos_of_mem (compL_mem'.2 ⟨han, Comp.refl⟩)
    have hC0 : (compL E b a)[0] = (a : Int) := by
      obtain ⟨c, hb, hbn, hbc⟩ := compL_mem.1 (List.getElem_mem h0C)
      obtain ⟨i, hi, he⟩ := List.mem_iff_getElem.1 (compL_mem'.2 (show a < b ∧ Comp E a a from ⟨han, Comp.refl⟩))
      have hle : c ≤ a := by
        rcases Nat.eq_zero_or_pos i with rfl | hi0
        · rw [he] at hb; omega
        · have := List.pairwise_iff_getElem.1 (compL_sorted E b a) 0 i h0C hi hi0
          rw [he, hb] at this; omega
      by_cases hba : c = a
      · rw [hb, hba]
      · obtain ⟨r, hr, hx⟩ := hrs.cover c (by omega) (cyc_comp hbc hca)
        exact absurd (hx.trans hbc.symm) (hnc r hr)
    refine call (hdep (h2.ext hE28) hRl8 h0C hC0 han fun c => compL_mem') ?_
    rintro u w13 ⟨hE13, D, hOu, hD⟩
    have hz13 := hE13.size_le
    obtain ⟨hzr, hpot⟩ := hD.pot han hrel
    have hD64 := hD.I64
    have hdl := hD.len
    let d : Nat → Int := fun c => D.getD c 0
    have hdb : ∀ c, c < D.length → -1 ≤ d c ∧ d c ≤ b ∧ D[c]? = some (d c) := fun c hc => by
      have e : d c = D[c] := by show D.getD c 0 = _; rw [List.getD_eq_getElem?_getD, List.getElem?_eq_getElem hc]; rfl
      rw [e]
      have := hD64 _ (List.getElem_mem hc)
      exact ⟨this.1, this.2, List.getElem?_eq_getElem hc⟩
    have hRu13 : SlR (fun c => w8.heap.size ≤ c) w13 u D := hOu.rep fun x hx => by have := hD64 x hx; show I64 x; unfold GX.I64; omega
    have hE213 := hE28.trans hE13
    have hb113 := hb1.ext hE213
    refine LD_bs1 hb113 ?_
    rw [h2.arcs.len]
    have rdP : ∀ {w' : World}, Chg w13 w' (fun c => c = px7.block) → Ext w2 w' ∧ R w' lab (compL E b a) ∧ SlR (fun c => w8.heap.size ≤ c) w' u D := fun hC => ⟨hC.ext0 hE213 fun k hk => by have hz24 := hE24.size_le; omega, ((hOl.ext hE13).keep fun k hk => hC.block k ((hOl.ext hE13).blk k hk).2 fun he => by have := (hOl.blk k hk).1; omega).rep hC64 |>.any, hRu13.chg hC fun c hc _ he => by have h3 : w8.heap.size ≤ c := hc; have h4 : c = px7.block := he; omega⟩
    refine ⟨IN p.arcs.length fun j w' => Chg w13 w' (fun c => c = px7.block) ∧ ∃ P : Nat, Box w' px7 T.t_s_waPart [lab.v, .int .i64 (P : Int), (⟨none, 0, 0⟩ : Sl).v] ∧ P ≤ 100 ∧ ∀ g : Nat, g ∣ P ↔ ∀ x y, (arcE (p.arcs.take j) x y ∧ Comp E a x ∧ Comp E a y) → (g : Int) ∣ d x + 1 - d y, MN p.arcs.length, IN_zero ⟨Chg.refl _ _, 0, hb8.ext hE13, by omega, fun g => by simp [arcE]⟩, ?_⟩
    rintro _ w14 ⟨j, rfl, hj, hC14, P, hb14, hP100, hP⟩
    intros
    obtain ⟨hE214, hRl14, hRu14⟩ := rdP hC14
    refine cond_dec (fun hlt => ?_) (fun hge2 => ?_)
    · have hj' : j < p.arcs.length := by omega
      refine (h2.arcs.ext hE214).ixL hj' fun q row hrow hcr => LD_sl hcr (LD_bs0 hb14 ?_)
      obtain ⟨x, y, he, hx, hy⟩ := hg.arc (List.getElem_mem hj')
      rw [hnn] at hx hy
      rw [he] at hrow
      have hstep : ∀ c e, arcE (p.arcs.take (j + 1)) c e ↔ arcE (p.arcs.take j) c e ∨ (c = x ∧ e = y) := fun c e => by
        unfold arcE
        rw [List.take_succ_eq_append_getElem hj', he, List.mem_append, List.mem_singleton]
        simp only [List.cons.injEq, and_true, Int.natCast_inj]
      have skip : ¬ (Comp E a x ∧ Comp E a y) → ∀ {w' : World}, Ext w14 w' → IN p.arcs.length (fun j w' => Chg w13 w' (fun c => c = px7.block) ∧ ∃ P : Nat, Box w' px7 T.t_s_waPart [lab.v, .int .i64 (P : Int), (⟨none, 0, 0⟩ : Sl).v] ∧ P ≤ 100 ∧ ∀ g : Nat, g ∣ P ↔ ∀ x y, (arcE (p.arcs.take j) x y ∧ Comp E a x ∧ Comp E a y) → (g : Int) ∣ d x + 1 - d y) (IntKind.i64.wrap ((j : Int) + 1)) w' ∧ MN p.arcs.length (IntKind.i64.wrap ((j : Int) + 1)) w' < MN p.arcs.length (j : Int) w14 := fun hno {w'} hE' =>
        IN_next h2.arcs.le hj' ⟨hC14.trans (.of_ext hE'), P, hb14.ext hE', hP100, fun g => (hP g).trans ⟨fun hh c e ⟨h1, h3, h4⟩ => by
          rcases (hstep c e).1 h1 with h5 | ⟨rfl, rfl⟩
          · exact hh c e ⟨h5, h3, h4⟩
          · exact absurd ⟨h3, h4⟩ hno, fun hh c e ⟨h1, h3⟩ => hh c e ⟨(hstep c e).2 (.inl h1), h3⟩⟩⟩
      have hmem : ∀ c : Nat, c < b → ((compL E b a).contains (c : Int) = true ↔ Comp E a c) := fun c hcn => by
        rw [List.contains_iff_mem, compL_mem']
        exact ⟨fun hh => hh.2, fun hh => ⟨hcn, hh⟩⟩
      have has : ∀ {w' : World} (z : Int), Ext w14 w' → Calls Tryz.prog F.s_l1Has #[lab.v, .int .i64 z] w' (Ret [.at .bool] fun (c : Bool) w'' => c = (compL E b a).contains z ∧ Ext w' w'') := fun z hE' => by
        refine call (l1Has_ok (hRl14.ext hE') z) ?_
        rintro _ _ ⟨rfl, rfl⟩
        exact ⟨rfl, Ext.refl _⟩
      refine hrow.any.ixI (i := 0) (by simp) fun q3 _ hc3 => LD_int hc3 ?_
      refine QCALL_bool ((compL E b a).contains (x : Int)) (fun w' hE' => has _ hE') ?_
      refine cond_b (fun ht => LD_bs0 hb14 ?_) (fun hf w16 hE16 => skip (fun hh => by rw [(hmem x hx).2 hh.1] at hf; cases hf) hE16)
      refine hrow.any.ixI (i := 1) (by simp) fun q4 _ hc4 => LD_int hc4 ?_
      refine QCALL_bool ((compL E b a).contains (y : Int)) (fun w' hE' => has _ hE') ?_
      intro w15 hE15
      refine cond_b (fun ht2 => ?_) (fun hf2 => skip (fun hh => by rw [(hmem y hy).2 hh.2] at hf2; cases hf2) hE15)
      have hcx := (hmem x hx).1 ht
      have hcy := (hmem y hy).1 ht2
      intro w17 hE17 _
      have hE1417 := hE15.trans hE17
      have hrow17 := hrow.any.ext hE1417
      have hRu17 := hRu14.any.ext hE1417
      have hb17 := hb14.ext hE1417
      have hxl : x < D.length := by omega
      have hyl : y < D.length := by omega
      have cr := Chg.refl w17 (fun _ => False)
      refine ⟨fun _ => False, not_false, LD_bi1 hb17 ?_⟩
      refine hrow17.ixI (i := 0) (by simp) fun q5 _ hc5 => ⟨not_false, LD_int hc5 ?_⟩
      refine hRu17.ixI (i := x) hxl fun q6 _ hc6 => ⟨not_false, LD_int hc6 ⟨cr, ?_⟩⟩
      refine hrow17.ixI (i := 1) (by simp) fun q7 _ hc7 => ⟨cr, LD_int hc7 ⟨cr, ?_⟩⟩
      refine hRu17.ixI (i := y) hyl fun q8 _ hc8 => ⟨cr, LD_int hc8 ⟨cr, cr, ?_⟩⟩
      obtain ⟨a1, a2, a3⟩ := hdb x hxl
      obtain ⟨b1, b2, b3⟩ := hdb y hyl
      have ea : D[x] = d x := by rw [List.getElem?_eq_getElem hxl] at a3; exact Option.some.inj a3
      have eb : D[y] = d y := by rw [List.getElem?_eq_getElem hyl] at b3; exact Option.some.inj b3
      rw [ea, eb, wrap_of (n := d x + 1) (by omega) (by omega), wrap_of (n := d x + 1 - d y) (by omega) (by omega)]
      refine call (l1Abs_ok (x := d x + 1 - d y) (by omega) w17) ?_
      rintro _ _ ⟨rfl, rfl⟩
      refine ⟨cr, call (waGcd_ok (a := P) (b := (d x + 1 - d y).natAbs) w17) ?_⟩
      rintro _ w19 ⟨hE19, rfl⟩
      refine ⟨.of_ext hE19, ?_⟩
      have hE219 := hE214.trans (hE1417.trans hE19)
      have hz24 := hE24.size_le
      refine ST_boxC (hb17.ext hE19) (by simp) rfl hE219 (by omega) fun w20 hC20 _ hb20 => ?_
      refine IN_next h2.arcs.le hj' ⟨(hC14.trans (.of_ext (hE1417.trans hE19))).trans hC20, _, hb20, gcd_bound hP100 (by omega), fun g => ?_⟩
      rw [div_step hP g]
      constructor
      · intro hh c e ⟨h1, h3, h4⟩
        rcases (hstep c e).1 h1 with h5 | ⟨rfl, rfl⟩
        · exact hh c e (.inl ⟨h5, h3, h4⟩)
        · exact hh c e (.inr ⟨rfl, rfl⟩)
      · rintro hh c e (⟨h1, h3⟩ | ⟨rfl, rfl⟩)
        · exact hh c e ⟨(hstep c e).2 (.inl h1), h3⟩
        · exact hh c e ⟨(hstep c e).2 (.inr ⟨rfl, rfl⟩), hcx, hcy⟩
    · have : j = p.arcs.length := by omega
      subst this
      have hPd : ∀ g : Nat, g ∣ P ↔ PerDiv E a g := fun g => by
        rw [hP g, List.take_length, hEe, ← pot_div (d := d) hzr hpot g]
        exact ⟨fun hh x y h2 h3 h1 => hh x y ⟨h1, h2, h3⟩, fun hh x y ⟨h1, h2, h3⟩ => hh x y h2 h3 h1⟩
      obtain ⟨hPf, hP0⟩ := flex_of hPd hca
      refine LD_bs0 hb14 ?_
      rw [hRl14.len]
      have hz14 := hC14.size
      -- the residues
      refine ⟨IN (compL E b a).length fun i w' => Chg w14 w' (fun c => c = px7.block) ∧ ∃ (res : Sl) (X : List Int), Box w' px7 T.t_s_waPart [lab.v, .int .i64 (P : Int), res.v] ∧ OwnL w' w14.heap.size T.t_int res X ∧ X.length = i, MN (compL E b a).length, IN_zero ⟨Chg.refl _ _, ⟨none, 0, 0⟩, [], hb14, OwnL.nil _ _ _, rfl⟩, ?_⟩
      rintro _ w21 ⟨i, rfl, hi, hC21, res, X, hb21, hOr, hXl⟩
      intros
      have hC1321 := hC14.trans hC21
      obtain ⟨hE221, hRl21, hRu21⟩ := rdP hC1321
      have hz21 := hC21.size
      have hz24 := hE24.size_le
      refine cond_dec (fun hlt => ?_) (fun hge3 => ?_)
      · have hi' : i < (compL E b a).length := by omega
        refine hRl21.ixI hi' fun q _ hcq => LD_int hcq ?_
        obtain ⟨c, hc, hcb, hcc⟩ := compL_mem.1 (List.getElem_mem hi')
        rw [hc]
        intro w22 hE22 _
        have hz22 := hE22.size_le
        have hOr22 := hOr.ext hE22
        have hb22 := hb21.ext hE22
        have hcl2 : c < D.length := by omega
        have hresne : ¬ oB res px7.block := fun hh => by have := (hOr.blk _ hh).1; omega
        refine ⟨oB res, hresne, LD_bs2 hb22 ?_⟩
        have hRu22 : SlR (fun c => w8.heap.size ≤ c ∧ c < w14.heap.size) w22 u D := ((hRu13.below.weak (D' := fun c => w8.heap.size ≤ c ∧ c < w14.heap.size) (fun c hc _ => ⟨hc.1, by have := hc.2; omega⟩) RepP.pos).chg hC1321 (fun c hc _ he => by have h3 := hc.1; have h4 : c = px7.block := he; omega)).ext hE22
        refine slr_ixW hRu22 (i := c) hcl2 fun q2 hq2 hc2 => ⟨fun hh => by have h3 := (hOr.blk _ hh).1; have h4 := hq2.2; omega, LD_int hc2 ⟨Chg.refl _ _, ?_⟩⟩
        obtain ⟨a1, a2, a3⟩ := hdb c hcl2
        have ea : D[c] = d c := by rw [List.getElem?_eq_getElem hcl2] at a3; exact Option.some.inj a3
        have hnn : 0 ≤ d c := by
          obtain ⟨k, hk, _⟩ := hpot c hcc
          show (0 : Int) ≤ D.getD c 0
          omega
        rw [ea]
        refine LD_bi1 hb22 ⟨Chg.refl _ _, (by omega), Chg.refl _ _, ?_⟩
        have ht64 : I64 (Int.tmod (d c) (P : Int)) := by
          rw [Int.tmod_eq_emod_of_nonneg hnn]
          have h1 := Int.emod_nonneg (d c) (show (P : Int) ≠ 0 by omega)
          have h2 := Int.emod_lt_of_pos (d c) (show (0 : Int) < P by omega)
          unfold GX.I64; omega
        refine RUN_lit1 (α := Int) slt_int (Int.tmod (d c) (P : Int)) rfl (by decide) fun y w23 hE23 hO23 => ⟨.of_ext hE23, ?_⟩
        have hz23 := hE23.size_le
        refine RUN_append (α := Int) slt_int (hOr22.ext hE23) (by omega) (hO23.rep (by intro x hx; rw [List.mem_singleton.1 hx]; exact ht64)).any (by simp; omega) (by simp [maxLen]; omega) fun res' w24 hO24 hs24 => ?_
        have hC24 : Chg w22 w24 (oB res) := (Chg.of_ext hE23).trans (.of_step hs24 fun k hk => hk)
        refine ⟨hC24, ?_⟩
        have hz24' := hs24.size
        have hE224 : Ext w2 w24 := hs24.ext0 (hE221.trans (hE22.trans hE23)) fun k hk => by have := (hOr.blk k hk).1; omega
        refine ST_boxC (hb22.chg hC24 hresne) (by simp) rfl hE224 (by omega) fun w25 hC25 _ hb25 => ?_
        refine IN_next (by omega) hi' ⟨((hC21.trans (.of_ext hE22)).then' hC24 fun k hk hd => by have := (hOr.blk k hd).1; omega).trans hC25, res', X ++ [Int.tmod (d c) (P : Int)], hb25, hO24.keep fun k hk => hC25.block k (hO24.blk k hk).2 fun he => by have := (hO24.blk k hk).1; omega, by simp [hXl]⟩
      · have : i = (compL E b a).length := by omega
        subst this
        refine LD_sis hb21 ?_
        refine RUN_lit1 (α := WRec) slt_part ⟨lab, (P : Int), res⟩ rfl (by decide) fun y w26 hE26 hO26 => ?_
        have hz26 := hE26.size_le
        -- everything since w4
        have hC4_8 : Chg w4 w8 (oB s18) := (Chg.of_ext hE47).then' hC8 fun k hk hd => hd.resolve_right fun he => by omega
        have hC4_21 : Chg w4 w21 (oB s18) := (hC4_8.trans (.of_ext hE13)).then' hC1321 fun k hk hd => by omega
        have hX21 : PartsO w3.heap.size w21 x4 E b rs := hX4.keep hC4_21 fun c hc hd => by have := (h18b c hd).2; omega
        have hz13' := hC1321.size
        have hlabR : SlR (fun c => w4.heap.size ≤ c) w21 lab (compL E b a) := (((hOl.ext hE13).keep fun k hk => hC1321.block k ((hOl.ext hE13).blk k hk).2 fun he => by have := (hOl.blk k hk).1; omega).rep hC64).weak (fun c hc _ => by have h3 : w7.heap.size ≤ c := hc; omega) RepP.pos
        obtain ⟨recs, hOx4, hrl4, _⟩ := id hX4.ex
        have hrl := roots_len hrs
        have hla : SlR (fun c => w3.heap.size ≤ c ∧ x4.v.ownBlock ≠ some c) w26 lab (compL E b a) := (hlabR.weak (fun c hc _ => ⟨by have h3 : w4.heap.size ≤ c := hc; omega, fun he => by have h3 : w4.heap.size ≤ c := hc; have := (hOx4.blk c he).2; omega⟩) RepP.pos).ext hE26
        refine RUN_append_part hX21 (by omega) hE26 hla ⟨P, rfl, hP100, hPf⟩ (by omega) hO26 fun x4' w27 hX27 hs27 => ?_
        have hz27 := hs27.size
        have hE226 := hE221.trans hE26
        refine hk x4' w27 (hs27.ext0 hE226 fun k hk => by have := (hOx4.blk k hk).1; omega) (by omega) ?_ hX27
        have hO26' : OwnL w26 w2.heap.size T.t_bool s18 (rowB b fun c => ∃ r ∈ rs ++ [a], Comp E r c) := ((hO8'.ext hE13).keep fun k hk => hC1321.block k ((hO8'.ext hE13).blk k hk).2 (h18ne k hk)).ext hE26
        exact hO26'.keep fun k hk => hs27.block k (hO26'.blk k hk).2 fun he => by have h1 := (hOx4.blk k he.symm).1; have h3 := (h18b k hk).2; omega

theorem waParts_ok {w : World} {s : Sl} {p : WPr} (h : RWk w s p) (hg : WGood p) :
    Calls Tryz.prog F.s_waParts #[.agg #[.int .i64 p.labels, s.v]] w (Ret [.at .sl] fun (r : Sl) w' => Ext w w' ∧ ∃ rs, Roots (arcE p.arcs) p.labels.toNat rs ∧ PartsO 0 w' r (arcE p.arcs) p.labels.toNat rs) := by
  refine C_s_waParts ?_
  unfold V_s_waParts
  refine NEW_intro fun px1 w1 hp1 hs1 hE1 hb1 => LD_is hb1 ?_
  refine call (waReach_ok (h.ext hE1) hg) ?_
  rintro s15 w2 ⟨hE2, hR15⟩
  have hl := hg.lab
  have hb2 := hb1.ext hE2
  have hE12 := hE1.trans hE2
  refine LD_bi0 hb2 ?_
  obtain ⟨n, hn⟩ : ∃ n : Nat, p.labels = n := ⟨p.labels.toNat, by omega⟩
  have hnt : p.labels.toNat = n := by omega
  have hn12 : n ≤ 12 := by omega
  rw [hnt] at hR15 ⊢
  have hrun : ∀ {K : Sl → World → Prop}, RUN Tryz.prog (.at .sl) (Instr.makeSlice T.t_sl_bool (.int .i64 (n : Int)) (.int .i64 (n : Int))) w2 K → RUN Tryz.prog (.at .sl) (Instr.makeSlice T.t_sl_bool (.int .i64 p.labels) (.int .i64 p.labels)) w2 K := fun hk => by rw [hn]; exact hk
  refine hrun ?_
  refine RUN_make (α := Bool) slt_bool (d := false) rfl (by omega) (by unfold maxLen; omega) fun s18 w3 hE3 hO3 => ?_
  rw [← rowB_false n (P := fun b => ∃ r ∈ ([] : List Nat), Comp (arcE p.arcs) r b) (fun _ _ ⟨r, hr, _⟩ => by simp at hr)] at hO3
  have hz3 := hE3.size_le
  have h18b : ∀ k, oB s18 k → w2.heap.size ≤ k ∧ k < w3.heap.size := fun k hk => hO3.blk k hk
  have h2 := h.ext hE12
  refine ⟨fun (x4 : Sl) (x : Int) w' => ∃ a : Nat, x = a ∧ a ≤ n ∧ Ext w2 w' ∧ w3.heap.size ≤ w'.heap.size ∧ ∃ rs, Roots (arcE p.arcs) a rs ∧ OwnL w' w2.heap.size T.t_bool s18 (rowB n fun b => ∃ r ∈ rs, Comp (arcE p.arcs) r b) ∧ PartsO w3.heap.size w' x4 (arcE p.arcs) n rs, fun _ x _ => n - x.toNat, ⟨0, rfl, by omega, hE3, Nat.le_refl _, [], Roots.nil _, hO3, PartsO.nil _ _ _ _⟩, ?_⟩
  rintro x4 _ w4 ⟨a, rfl, ha, hE4, hz4, rs, hrs, hO18, hX4⟩
  intros
  have next : ∀ {x4' : Sl} {w' : World} {rs' : List Nat}, a < n → Ext w2 w' → w3.heap.size ≤ w'.heap.size → Roots (arcE p.arcs) (a + 1) rs' → OwnL w' w2.heap.size T.t_bool s18 (rowB n fun b => ∃ r ∈ rs', Comp (arcE p.arcs) r b) → PartsO w3.heap.size w' x4' (arcE p.arcs) n rs' → (∃ a' : Nat, IntKind.i64.wrap ((a : Int) + 1) = a' ∧ a' ≤ n ∧ Ext w2 w' ∧ w3.heap.size ≤ w'.heap.size ∧ ∃ rs, Roots (arcE p.arcs) a' rs ∧ OwnL w' w2.heap.size T.t_bool s18 (rowB n fun b => ∃ r ∈ rs, Comp (arcE p.arcs) r b) ∧ PartsO w3.heap.size w' x4' (arcE p.arcs) n rs) ∧ n - (IntKind.i64.wrap ((a : Int) + 1)).toNat < n - ((a : Int)).toNat := fun han k1 k2 k3 k4 k5 => by
    rw [wrap_of (by omega) (by omega)]
    exact ⟨⟨a + 1, by omega, by omega, k1, k2, _, k3, k4, k5⟩, by omega⟩
  refine LD_bi0 (hb2.ext hE4) (cond_dec (fun hlt => ?_) (fun hge => ?_))
  · have han : a < n := by omega
    have hal : a < (rowB n fun b => ∃ r ∈ rs, Comp (arcE p.arcs) r b).length := by rw [rowB_len]; exact han
    refine (hO18.rep fun _ _ => trivial).any.ixB hal fun q hc => LD_bool hc ?_
    have hd := rowB_get hal
    generalize (rowB n fun b => ∃ r ∈ rs, Comp (arcE p.arcs) r b)[a] = v at hd
    refine cond_b (fun ht => next han hE4 hz4 (hrs.skip fun _ => hd.1 ht) hO18 hX4) (fun hf => ?_)
    have hnc : ∀ r ∈ rs, ¬ Comp (arcE p.arcs) r a := fun r hr hc => by rw [hd.2 ⟨r, hr, hc⟩] at hf; cases hf
    have hm15 : (matB n (reachE (arcE p.arcs))).length = n := matB_len _ _
    refine (hR15.ext hE4).ixL (i := a) (by omega) fun q2 row hrow hc2 => LD_sl hc2 ?_
    rw [matB_get (by omega)] at hrow
    have hal2 : a < (rowB n (reachE (arcE p.arcs) a)).length := by rw [rowB_len]; exact han
    refine hrow.any.ixB hal2 fun q3 hc3 => LD_bool hc3 ?_
    have hr := rowB_get hal2
    generalize (rowB n (reachE (arcE p.arcs) a))[a] = v2 at hr
    refine cond_not (fun hf2 => next han hE4 hz4 (hrs.skip fun hc => (by rw [hr.2 hc] at hf2; cases hf2)) hO18 hX4) (fun ht2 => ?_)
    have hca : ∃ k, 0 < k ∧ Wk (arcE p.arcs) k a a := hr.1 ht2
    exact waParts_k4 (w3 := w3) h2 hg hnt hb2 hE4 hR15 hz3 hz4 h18b hO18 hX4 han hrs hca hnc fun x4' w' k1 k2 k3 k4 => next han k1 k2 (hrs.add hca hnc) k3 k4
  · have : a = n := by omega
    subst this
    refine ⟨hE12.trans hE4, rs, hrs, ?_⟩
    obtain ⟨recs, hO, hl2, hr2⟩ := hX4.ex
    exact ⟨recs, hO.low (by omega), hl2, fun j h1 h2 => ⟨(hr2 j h1 h2).1.weak (fun c hc _ => ⟨by omega, hc.2⟩) RepP.pos, (hr2 j h1 h2).2⟩⟩

end Go.Proofs.YtaeledhbkdakcaaGreatDoor
end

section
/- Walk problems, the reference: flexible labels. -/
namespace Go.Proofs.YtaeledhbkdakcaaGreatDoor
open Go.GX Go.RowKit
set_option maxRecDepth 100000

theorem slr_nil {α : Type} [RepP α] (D : Nat → Prop) (w : World) : SlR D w ⟨none, 0, 0⟩ ([] : List α) := ⟨rfl, ⟨Nat.le_refl _, by simp⟩, fun i x hx => by simp at hx⟩

theorem slr_ixW3 {D : Nat → Prop} {w : World} {s : Sl} {l : List WRec} (h : SlR D w s l) {i : Nat} (hi : i < l.length) {K : Addr → Prop} (hk : ∀ p, (∀ j v, [l[i].a.v, .int .i64 l[i].p, l[i].b.v][j]? = some v → w.cell? (p.add j) = some v) → K p) : IX s i 3 K :=
  h.ix rfl (by omega) (by omega) fun p cs hr hc => hk p fun j v hv => hc j v (by
    have hr' : cs = [l[i].a.v, .int .i64 l[i].p, l[i].b.v] := hr
    rw [hr']; exact hv)

theorem LD_wpart {w : World} {p : Addr} {x : WRec} {K : Sl → Int → Sl → Prop} (hc : ∀ (j : Nat) (v : Value), [x.a.v, .int .i64 x.p, x.b.v][j]? = some v → w.cell? (p.add j) = some v) (hk : K x.a x.p x.b) : LD [.sl, .int .i64, .sl] p w K := ⟨[x.a.v, .int .i64 x.p, x.b.v], rfl, fun j v hv => hc j v hv, hk⟩

theorem waFlexible_ok {w : World} {s : Sl} {p : WPr} (h : RWk w s p) (hg : WGood p) :
    Calls Tryz.prog F.s_waFlexible #[.agg #[.int .i64 p.labels, s.v]] w (Ret [.at .sl] fun (r : Sl) w' => Ext w w' ∧ SlR (fun b => w.heap.size ≤ b) w' r (flexL (arcE p.arcs) p.labels.toNat)) := by
  refine C_s_waFlexible ?_
  unfold V_s_waFlexible
  refine NEW_intro fun pp w1 hp1 hs1 hE1 hb1 => LD_is hb1 ?_
  refine call (waParts_ok (h.ext hE1) hg) ?_
  rintro t w2 ⟨hE2, rs, hrs, hPO⟩
  have hl := hg.lab
  generalize arcE p.arcs = E at *
  generalize hnn : p.labels.toNat = n at *
  have hn12 : n ≤ 12 := by omega
  obtain ⟨recs, hO, hrl, hr⟩ := hPO.ex
  have hRt : R w2 t recs := (hO.rep fun _ _ => trivial).any
  have hrln := roots_len hrs
  have hz1 := hE1.size_le
  have hz2 := hE2.size_le
  rw [hRt.len, hrl]
  have small : ∀ {m : List Int}, m.Pairwise (· < ·) → (∀ x ∈ m, ∃ r, x ∈ compL E n r) → m.length ≤ 12 := fun hs hm => by
    have := (lt_sub_sublist hs (show (allL n).Pairwise (· < ·) by unfold allL; rw [List.pairwise_map]; exact List.pairwise_lt_range.imp fun h => by omega) fun x hx => by
      obtain ⟨r, hx⟩ := hm x hx
      obtain ⟨a, rfl, ha, _⟩ := compL_mem.1 hx
      exact allL_mem.2 ⟨a, rfl, ha⟩).length_le
    simp [allL] at this
    omega
  refine ⟨IN2 rs.length fun i (out : Sl) w' => Ext w2 w' ∧ ∃ m, SlR (fun b => w2.heap.size ≤ b) w' out m ∧ m.Pairwise (· < ·) ∧ ∀ x, x ∈ m ↔ ∃ r ∈ rs.take i, Flex E r ∧ x ∈ compL E n r, MN2 rs.length, IN2_zero ⟨Ext.refl _, [], slr_nil _ _, List.Pairwise.nil, fun x => by simp⟩, ?_⟩
  rintro out _ w3 ⟨i, rfl, hi, hE3, m, hm, hms, hmx⟩
  intros
  refine cond_dec (fun hlt => ?_) (fun hge => ?_)
  · have hi' : i < rs.length := by omega
    have hir : i < recs.length := by omega
    obtain ⟨hlab, q0, hq0, _, hqf⟩ := hr i hir hi'
    have htk : rs.take (i + 1) = rs.take i ++ [rs[i]] := List.take_succ_eq_append_getElem hi'
    refine slr_ixW3 (hRt.ext hE3) hir fun q hc => ?_
    refine LD_wpart hc ?_
    refine NEW_ST (one3w _ _ _) rfl fun px w5 hpx hE5 hb5 => LD_bs0 hb5 ?_
    have hE35 := hE3.trans hE5
    have hz3 := hE3.size_le
    have hz5 := hE5.size_le
    have hRlab : R w5 recs[i].a (compL E n rs[i]) := (hlab.any).ext hE35
    rw [hRlab.len]
    refine ⟨IN2 (compL E n rs[i]).length fun j (o : Sl) w' => Ext w5 w' ∧ ∃ m, SlR (fun b => w2.heap.size ≤ b) w' o m ∧ m.Pairwise (· < ·) ∧ ∀ x, x ∈ m ↔ (∃ r ∈ rs.take i, Flex E r ∧ x ∈ compL E n r) ∨ (Flex E rs[i] ∧ x ∈ (compL E n rs[i]).take j), MN2 (compL E n rs[i]).length, IN2_zero ⟨Ext.refl _, m, hm.ext hE5, hms, fun x => (hmx x).trans (by simp)⟩, ?_⟩
    rintro o _ w6 ⟨j, rfl, hj, hE6, m6, hm6, hms6, hmx6⟩
    intros
    refine cond_dec (fun hlt2 => ?_) (fun hge2 => ?_)
    · have hj' : j < (compL E n rs[i]).length := by omega
      refine (hRlab.ext hE6).ixI hj' fun q2 h64 hc2 => LD_int hc2 (LD_bi1 (hb5.ext hE6) ?_)
      have htk2 : (compL E n rs[i]).take (j + 1) = (compL E n rs[i]).take j ++ [(compL E n rs[i])[j]] := List.take_succ_eq_append_getElem hj'
      have hcl := compL_len E n rs[i]
      have hz6 := hE6.size_le
      refine cond_eq (fun h1 => ?_) (fun hne => ?_)
      · have hF : Flex E rs[i] := hqf.1 (by rw [hq0] at h1; omega)
        have hml : m6.length ≤ 12 := small hms6 fun x hx => by
          rcases (hmx6 x).1 hx with ⟨r, _, _, h3⟩ | ⟨_, h3⟩
          · exact ⟨r, h3⟩
          · exact ⟨_, List.mem_of_mem_take h3⟩
        refine call (l1Put_D hm6 (by omega) hms6 h64) ?_
        rintro o' w7 ⟨hE7, m7, hm7, hms7, hmx7, _⟩
        refine IN2_next (by omega) hj' ⟨hE6.trans hE7, m7, hm7.weak (fun b hb _ => hb.elim id fun hb => by omega) RepP.pos, hms7, fun x => ?_⟩
        rw [hmx7, hmx6, htk2, List.mem_append, List.mem_singleton]
        constructor
        · rintro ((h2 | ⟨h2, h3⟩) | h2)
          · exact .inl h2
          · exact .inr ⟨h2, .inl h3⟩
          · exact .inr ⟨hF, .inr h2⟩
        · rintro (h2 | ⟨h2, h3 | h3⟩)
          · exact .inl (.inl h2)
          · exact .inl (.inr ⟨h2, h3⟩)
          · exact .inr h3
      · have hF : ¬ Flex E rs[i] := fun hf => hne (by rw [hq0, hqf.2 hf]; rfl)
        refine IN2_next (by omega) hj' ⟨hE6, m6, hm6, hms6, fun x => ?_⟩
        rw [hmx6]
        exact ⟨fun hh => hh.imp id fun ⟨h2, _⟩ => absurd h2 hF, fun hh => hh.imp id fun ⟨h2, _⟩ => absurd h2 hF⟩
    · have : j = (compL E n rs[i]).length := by omega
      subst this
      refine IN2_next (by omega) hi' ⟨hE35.trans hE6, m6, hm6, hms6, fun x => ?_⟩
      rw [hmx6, List.take_length]
      constructor
      · rintro (⟨r, h2, h3⟩ | h2)
        · exact ⟨r, by rw [htk]; exact List.mem_append_left _ h2, h3⟩
        · exact ⟨rs[i], by rw [htk]; exact List.mem_append_right _ (List.mem_singleton.2 rfl), h2⟩
      · rintro ⟨r, h2, h3⟩
        rw [htk] at h2
        rcases List.mem_append.1 h2 with h2 | h2
        · exact .inl ⟨r, h2, h3⟩
        · rw [List.mem_singleton.1 h2] at h3; exact .inr h3
  · have : i = rs.length := by omega
    subst this
    rw [List.take_length] at hmx
    have e : m = flexL E n := sorted_ext hms (flexL_sorted E n) fun x => by
      classical
      rw [hmx, ← flex_roots hrs (fs := rs.filter fun r => decide (Flex E r)) (fun r => by simp [List.mem_filter]) x, List.mem_flatMap]
      constructor
      · rintro ⟨r, h1, h2, h3⟩
        exact ⟨r, List.mem_filter.2 ⟨h1, by simpa using h2⟩, h3⟩
      · rintro ⟨r, h1, h3⟩
        rw [List.mem_filter] at h1
        exact ⟨r, h1.1, by simpa using h1.2, h3⟩
    rw [e] at hm
    exact ⟨(hE1.trans hE2).trans hE3, hm.weak (fun b hb _ => by omega) RepP.pos⟩

end Go.Proofs.YtaeledhbkdakcaaGreatDoor
end

section
/- A flexible label has closed walks of all lengths from the square of the number of labels on. No program in sight. -/
namespace Go.Proofs.YtaeledhbkdakcaaGreatDoor
set_option maxRecDepth 100000

/-- Sums of a set of numbers whose only common divisor is one: all numbers from one on. -/
theorem frob {S : Nat → Prop} (h0 : S 0) (hadd : ∀ x y, S x → S y → S (x + y)) (hp : ∃ k, 0 < k ∧ S k) (hg : ∀ g, (∀ k, S k → g ∣ k) → g = 1) : ∃ N, ∀ k, N ≤ k → S k := by
  have hmul : ∀ q x, S x → S (q * x) := by
    intro q x hx
    induction q with
    | zero => simpa using h0
    | succ q ih => rw [Nat.succ_mul]; exact hadd _ _ ih hx
  have hone : ∀ d, 0 < d → (∃ x y, S x ∧ S y ∧ x = y + d) → ∃ x y, S x ∧ S y ∧ x = y + 1 := by
    intro d
    induction d using Nat.strongRecOn with
    | ind d ih =>
      rintro hd ⟨x, y, hx, hy, he⟩
      by_cases hall : ∀ k, S k → d ∣ k
      · have := hg d hall
        subst this
        exact ⟨x, y, hx, hy, he⟩
      · have ⟨k, hk⟩ := Classical.not_forall.1 hall
        have hSk : S k := Classical.byContradiction fun hn => hk fun h => absurd h hn
        have hnd : ¬ d ∣ k := fun h => hk fun _ => h
        have hr : 0 < k % d := Nat.pos_of_ne_zero fun h => hnd (Nat.dvd_of_mod_eq_zero h)
        refine ih (k % d) (Nat.mod_lt _ hd) hr ⟨k + (k / d) * y, (k / d) * x, hadd _ _ hSk (hmul _ _ hy), hmul _ _ hx, ?_⟩
        have hk2 := Nat.div_add_mod k d
        rw [he, Nat.mul_add, Nat.mul_comm (k / d) d]
        omega
  obtain ⟨k, hk, hSk⟩ := hp
  obtain ⟨x, y, hx, hy, rfl⟩ := hone k hk ⟨k, 0, hSk, h0, by omega⟩
  refine ⟨y * y, fun k hk => ?_⟩
  by_cases hy0 : y = 0
  · subst hy0
    have := hmul k (0 + 1) hx
    simpa using this
  · have h1 := Nat.div_add_mod k y
    have h2 := Nat.mod_lt k (Nat.pos_of_ne_zero hy0)
    have h3 : y ≤ k / y := (Nat.le_div_iff_mul_le (Nat.pos_of_ne_zero hy0)).2 hk
    have h4 := hadd _ _ (hmul (k / y - k % y) y hy) (hmul (k % y) (y + 1) hx)
    have e : (k / y - k % y) * y + k % y * (y + 1) = k := by
      rw [Nat.sub_mul, Nat.mul_add, Nat.mul_one, Nat.mul_comm (k / y) y]
      have h5 : k % y * y ≤ y * (k / y) := by
        rw [Nat.mul_comm y]
        exact Nat.mul_le_mul_right y (by omega)
      omega
    rwa [e] at h4

section
variable {E : Nat → Nat → Prop} {a b n s : Nat}

theorem wk_mul : ∀ {j a b}, Wk E (s * j) a b ↔ Wk (fun x y => Wk E s x y) j a b
  | 0, a, b => by rw [Nat.mul_zero]; exact Iff.rfl
  | j + 1, a, b => by
    rw [Nat.mul_succ]
    constructor
    · intro h
      obtain ⟨c, h1, h2⟩ := h.cut
      exact ⟨c, wk_mul.1 h1, h2⟩
    · rintro ⟨c, h1, h2⟩
      exact (wk_mul.2 h1).cat h2

/-- A walk with fewer steps than there are labels. -/
theorem Wk.short0 (hE : ∀ x y, E x y → y < n) : ∀ {k a b}, a < n → Wk E k a b → ∃ k', k' + 1 ≤ n ∧ Wk E k' a b := by
  intro k
  induction k using Nat.strongRecOn with
  | ind k ih =>
    intro a b ha h
    by_cases hkn : k + 1 ≤ n
    · exact ⟨k, hkn, h⟩
    · obtain ⟨v, h0, hb, hs⟩ := h.path
      by_cases hinj : ∃ i j, i < j ∧ j ≤ k ∧ v i = v j
      · obtain ⟨i, j, h2, h3, h4⟩ := hinj
        have w1 := Wk.of_path hs (i := 0) (j := i) (by omega) (by omega)
        have w2 := Wk.of_path hs (i := j) (j := k) (by omega) (by omega)
        rw [h0, h4] at w1
        rw [hb] at w2
        exact ih (i - 0 + (k - j)) (by omega) ha (w1.cat w2)
      · exfalso
        have hv : ∀ i, i ≤ k → v i < n := fun i hi => by
          rcases Nat.eq_zero_or_pos i with rfl | hp
          · rw [h0]; exact ha
          · obtain ⟨j, rfl⟩ : ∃ j, i = j + 1 := ⟨i - 1, by omega⟩
            exact hE _ _ (hs j (by omega))
        have hlen := nodup_length n ((List.range (k + 1)).map v) (by
          unfold List.Nodup
          rw [List.pairwise_map, List.pairwise_iff_getElem]
          intro i j hi hj hij
          simp only [List.length_range] at hi hj
          simp only [List.getElem_range]
          intro he
          exact hinj ⟨i, j, hij, by omega, he⟩) (fun x hx => by
          obtain ⟨i, hi, rfl⟩ := List.mem_map.1 hx
          exact hv i (by have := List.mem_range.1 hi; omega))
        rw [List.length_map, List.length_range] at hlen
        omega

theorem Wk.loops (h : E a a) : ∀ k, Wk E k a a
  | 0 => rfl
  | k + 1 => ⟨a, Wk.loops h k, h⟩

theorem flex_all (hE : ∀ x y, E x y → y < n) (h : Flex E a) : ∀ k, n * n ≤ k → Wk E k a a := by
  intro k hk
  obtain ⟨k0, hk0, hw0⟩ := h.1
  have han : a < n := hw0.lt hE hk0
  obtain ⟨s, hs1, hsn, hs⟩ := hw0.short hE hk0
  have hsl : s * (n - 1) ≤ k := by
    have h1 : s * (n - 1) ≤ n * (n - 1) := Nat.mul_le_mul_right _ hsn
    have h2 : n * (n - 1) ≤ n * n := Nat.mul_le_mul_left _ (by omega)
    omega
  -- round the closed walk
  have hround : ∃ v, Wk E (k - s * (n - 1)) a v ∧ Wk E s v v ∧ v < n ∧ ∃ i, Wk E i v a := by
    generalize k - s * (n - 1) = m
    have hm := Nat.div_add_mod m s
    have hr := Nat.mod_lt m (show s > 0 by omega)
    have h1 : Wk E (s * (m / s)) a a := wk_mul.2 (Wk.loops hs _)
    obtain ⟨d, hd⟩ : ∃ d, s = m % s + d := ⟨s - m % s, by omega⟩
    have hs2 := hs
    rw [hd] at hs2
    obtain ⟨v, h2, h3⟩ := hs2.cut
    have h4 := h1.cat h2
    rw [hm] at h4
    have h5 := h3.cat h2
    rw [Nat.add_comm, ← hd] at h5
    exact ⟨v, h4, h5, h5.lt hE hs1, d, h3⟩
  obtain ⟨v, hav, hvv, hvn, hva⟩ := hround
  -- all large lengths
  have hc : Comp E a v := ⟨⟨_, hav⟩, hva⟩
  have hfv := h.comp hc
  obtain ⟨N, hN⟩ := frob (S := fun k => Wk E k v v) rfl (fun x y h1 h2 => h1.cat h2) hfv.1 hfv.2
  obtain ⟨l, hl⟩ := hc.2
  have hbig : Wk E (s * (N + l)) v a := by
    have h1 : N ≤ s * (N + l) - l := by
      have : 1 * (N + l) ≤ s * (N + l) := Nat.mul_le_mul_right _ hs1
      omega
    have h2 := (hN _ h1).cat hl
    have e : s * (N + l) - l + l = s * (N + l) := by
      have : 1 * (N + l) ≤ s * (N + l) := Nat.mul_le_mul_right _ hs1
      omega
    rwa [e] at h2
  obtain ⟨j, hj, hw⟩ := Wk.short0 (E := fun x y => Wk E s x y) (n := n) (fun x y hxy => Wk.lt hE hxy hs1) hvn (wk_mul.1 hbig)
  have h6 := (Wk.loops (E := fun x y => Wk E s x y) hvv (n - 1 - j)).cat hw
  have e : n - 1 - j + j = n - 1 := by omega
  rw [e] at h6
  have h7 := hav.cat (wk_mul.2 h6)
  have e2 : k - s * (n - 1) + s * (n - 1) = k := by omega
  rwa [e2] at h7

end
end Go.Proofs.YtaeledhbkdakcaaGreatDoor
end

section
/- Levels of marks for a walk problem: both sides. -/
namespace Go.GX
open Go.RowKit

/-- A quiet call with a number and a truth value as its answer. -/
theorem QCALL_ib {P : Program} {f : FuncId} {args : Array Value} {w : World} {K : Int → Bool → Prop} (b : Int) (c : Bool)
    (h : ∀ w', Ext w w' → Calls P f args w' (Ret [.at (.int .i64), .at .bool] fun (x : Int) (y : Bool) w'' => x = b ∧ y = c ∧ Ext w' w'')) (hk : K b c) : QCALL P f args w [.at (.int .i64), .at .bool] K :=
  ⟨.tuple #[.int .i64 b, .bool c], [.int .i64 b, .bool c], rfl, fun w' hw => (h w' hw).mono fun e w'' he => by
    cases e with
    | returned v =>
      simp only [Ret] at he
      cases hu : unR [.at (.int .i64), .at .bool] v with
      | none => rw [hu] at he; exact he.elim
      | some vs =>
        rw [hu] at he
        have hv := mkR_unR hu
        have h' : app botW (atsR [.at (.int .i64), .at .bool]) (cur (atsR [.at (.int .i64), .at .bool]) fun vs w0 => vs = [.int .i64 b, .bool c] ∧ Ext w' w0) vs w'' := app_le (l := atsR [.at (.int .i64), .at .bool]) (fun (x : Int) (y : Bool) w0 (hh : x = b ∧ y = c ∧ Ext w' w0) => ⟨by rw [hh.1, hh.2.1], hh.2.2⟩) he
        obtain ⟨rfl, h3⟩ := app_curW h'
        exact ⟨by rw [← hv]; rfl, h3⟩
    | panicked _ => exact he.elim
    | outgrown => exact he.elim, hk⟩

end Go.GX
namespace Go.Proofs.YtaeledhbkdakcaaGreatDoor
open Go.GX Go.RowKit
set_option maxRecDepth 100000

/-- The length from which on there are closed walks of all lengths. -/
def FlexIs (E : Nat → Nat → Prop) (a : Nat) (x : Int) : Prop := ∃ k : Nat, x = (k : Int) + 1 ∧ (k = 0 ∨ ¬ Wk E k a a) ∧ ∀ j, k < j → Wk E j a a
theorem FlexIs.unique {E : Nat → Nat → Prop} {a : Nat} {x y : Int} (h : FlexIs E a x) (h' : FlexIs E a y) : x = y := by
  obtain ⟨k, rfl, h1, h2⟩ := h
  obtain ⟨j, rfl, h3, h4⟩ := h'
  have e : k = j := by
    rcases Nat.lt_trichotomy k j with hlt | he | hgt
    · rcases h3 with h3 | h3
      · omega
      · exact absurd (h2 j hlt) h3
    · exact he
    · rcases h1 with h1 | h1
      · omega
      · exact absurd (h4 k hgt) h1
  rw [e]

theorem flexibilityOf_ok {w : World} {s : Sl} {p : WPr} {a : Nat} (h : RWk w s p) (hg : WGood p) (ha : a < p.labels.toNat) (hF : Flex (arcE p.arcs) a) :
    Calls Tryz.prog F.i_WalkProblem_flexibilityOf #[.agg #[.int .i64 p.labels, s.v], .int .i64 a] w (Ret [.at (.int .i64)] fun (x : Int) w' => Ext w w' ∧ FlexIs (arcE p.arcs) a x ∧ x ≤ 1000) := by
  refine C_i_WalkProblem_flexibilityOf ?_
  unfold V_i_WalkProblem_flexibilityOf
  refine NEW_intro fun pp w1 hp1 hs1 hE1 hb1 => LD_is hb1 ?_
  have hl := hg.lab
  have hrel : ∀ x y, arcE p.arcs x y → y < p.labels.toNat := fun x y hxy => (hg.rel hxy).2
  have hall := flex_all hrel hF
  refine call (reached_ok (m := 288) (h.ext hE1) hg ha (by omega)) ?_
  rintro t w2 ⟨hE2, hO2⟩
  generalize arcE p.arcs = E at *
  generalize hnn : p.labels.toNat = n at *
  have hn12 : n ≤ 12 := by omega
  have hnsq : n * n ≤ 144 := Nat.mul_le_mul hn12 hn12
  have hR : R w2 t (reachL E n a (288 + 1)) := (hO2.rep (reachL_I64 hn12)).any
  have hE := hE1.trans hE2
  have e0 : IntKind.i64.wrap ((t.len : Int) - 1) = ((288 : Nat) : Int) := by rw [hR.len, reachL_len, wrap_of (by omega) (by omega)]; rfl
  rw [e0]
  refine ⟨fun (x : Int) w' => w2 = w' ∧ ∃ k : Nat, x = k ∧ k ≤ 288 ∧ ∀ j, k < j → Wk E j a a, fun x _ => x.toNat, ⟨rfl, 288, rfl, by omega, fun j hj => hall j (by omega)⟩, ?_⟩
  rintro _ _ ⟨rfl, k, rfl, hk, hj⟩
  intros
  have fin : (k = 0 ∨ ¬ Wk E k a a) → Ext w w2 ∧ FlexIs E a (IntKind.i64.wrap ((k : Int) + 1)) ∧ IntKind.i64.wrap ((k : Int) + 1) ≤ 1000 := fun hc => by
    rw [wrap_of (by omega) (by omega)]
    exact ⟨hE, ⟨k, rfl, hc, hj⟩, by omega⟩
  refine cond_dec (fun hpos => ?_) (fun hz => fin (.inl (by omega)))
  have hkl : k < (reachL E n a (288 + 1)).length := by rw [reachL_len]; omega
  refine hR.ixI hkl fun q _ hc => LD_int hc ⟨by omega, ?_⟩
  classical
  rw [reachL_get hkl, bit_maskP hn12 ha]
  by_cases hw : Wk E k a a
  · rw [if_pos hw]
    refine cond_t (by rfl) ?_
    rw [wrap_of (by omega) (by omega)]
    refine ⟨⟨rfl, k - 1, by omega, by omega, fun j hj2 => ?_⟩, by simp only []; omega⟩
    by_cases hjk : j = k
    · subst hjk; exact hw
    · exact hj j (by omega)
  · rw [if_neg hw]
    exact cond_f (by rfl) (fin (.inr hw))

theorem waFlexibility_ok {w : World} {s : Sl} {p : WPr} {a : Nat} (h : RWk w s p) (hg : WGood p) (ha : a < p.labels.toNat) (hF : Flex (arcE p.arcs) a) :
    Calls Tryz.prog F.s_waFlexibility #[.agg #[.int .i64 p.labels, s.v], .int .i64 a] w (Ret [.at (.int .i64)] fun (x : Int) w' => Ext w w' ∧ FlexIs (arcE p.arcs) a x ∧ x ≤ 1000) := by
  refine C_s_waFlexibility ?_
  unfold V_s_waFlexibility
  refine NEW_intro fun pp w1 hp1 hs1 hE1 hb1 => LD_is hb1 (LD_bi0 hb1 (LD_bi0 hb1 ?_))
  have hl := hg.lab
  have hrel : ∀ x y, arcE p.arcs x y → y < p.labels.toNat := fun x y hxy => (hg.rel hxy).2
  have hall := flex_all hrel hF
  obtain ⟨n, hn⟩ : ∃ n : Nat, p.labels = n := ⟨p.labels.toNat, by omega⟩
  have hnt : p.labels.toNat = n := by omega
  have hn12 : n ≤ 12 := by omega
  have hnsq : n * n ≤ 144 := Nat.mul_le_mul hn12 hn12
  have em : IntKind.i64.wrap (IntKind.i64.wrap (p.labels * p.labels) + 1) = ((n * n + 1 : Nat) : Int) := by
    have e1 : p.labels * p.labels = ((n * n : Nat) : Int) := by rw [hn]; push_cast; rfl
    rw [e1, wrap_of (n := ((n * n : Nat) : Int)) (by omega) (by omega), wrap_of (by omega) (by omega)]
    rfl
  have hpow := waPowers_ok (m := n * n + 1) (h.ext hE1) hg (by omega)
  rw [← em] at hpow
  refine call hpow ?_
  rintro t w2 ⟨hE2, hR2⟩
  rw [hnt] at hR2 ha hall hrel
  clear hpow
  generalize arcE p.arcs = E at *
  have hR : R w2 t (powL E n (n * n + 1 + 1)) := hR2.any
  have hE := hE1.trans hE2
  have e0 : IntKind.i64.wrap ((t.len : Int) - 1) = ((n * n + 1 : Nat) : Int) := by rw [hR.len, powL_len, wrap_of (by omega) (by omega)]; omega
  rw [e0]
  refine ⟨fun (x : Int) w' => w2 = w' ∧ ∃ k : Nat, x = k ∧ k ≤ n * n + 1 ∧ ∀ j, k < j → Wk E j a a, fun x _ => x.toNat, ⟨rfl, n * n + 1, rfl, by omega, fun j hj => hall j (by omega)⟩, ?_⟩
  rintro _ _ ⟨rfl, k, rfl, hk, hj⟩
  intros
  have fin : (k = 0 ∨ ¬ Wk E k a a) → Ext w w2 ∧ FlexIs E a (IntKind.i64.wrap ((k : Int) + 1)) ∧ IntKind.i64.wrap ((k : Int) + 1) ≤ 1000 := fun hc => by
    rw [wrap_of (by omega) (by omega)]
    exact ⟨hE, ⟨k, rfl, hc, hj⟩, by omega⟩
  refine cond_dec (fun hpos => ?_) (fun hz => fin (.inl (by omega)))
  have hkl : k < (powL E n (n * n + 1 + 1)).length := by rw [powL_len]; omega
  refine hR.ixL hkl fun q m hm hc => LD_sl hc ?_
  rw [powL_get hkl] at hm
  have hal : a < (matB n (Wk E k)).length := by rw [matB_len]; exact ha
  refine hm.any.ixL hal fun q2 row hrow hc2 => LD_sl hc2 ?_
  rw [matB_get hal] at hrow
  have hal2 : a < (rowB n (Wk E k a)).length := by rw [rowB_len]; exact ha
  refine hrow.any.ixB hal2 fun q3 hc3 => LD_bool hc3 ?_
  have hv := rowB_get hal2
  generalize (rowB n (Wk E k a))[a] = v at hv
  refine cond_b (fun ht => ?_) (fun hf => fin (.inr fun hw => by rw [hv.2 hw] at hf; cases hf))
  rw [wrap_of (by omega) (by omega)]
  refine ⟨⟨rfl, k - 1, by omega, by omega, fun j hj2 => ?_⟩, by simp only []; omega⟩
  by_cases hjk : j = k
  · subst hjk; exact hv.1 ht
  · exact hj j (by omega)

/-- How often two is taken to reach a number. -/
def LvlIs (x : Int) (l : Nat) : Prop := x ≤ ((2 ^ l : Nat) : Int) ∧ ∀ j, j < l → ((2 ^ j : Nat) : Int) < x
theorem LvlIs.unique {x : Int} {l m : Nat} (h : LvlIs x l) (h' : LvlIs x m) : l = m := by
  rcases Nat.lt_trichotomy l m with hlt | he | hgt
  · have := h'.2 l hlt; have := h.1; omega
  · exact he
  · have := h.2 m hgt; have := h'.1; omega
theorem lvl_few {x : Int} (hx : x ≤ 1000) {l : Nat} (h : ∀ j, j < l → ((2 ^ j : Nat) : Int) < x) : l ≤ 10 := by
  rcases Nat.lt_or_ge 10 l with hlt | hge
  · have h1 := h 10 hlt
    have h2 : (2 : Nat) ^ 10 = 1024 := by decide
    omega
  · exact hge

/-- What LevelsFor answers. -/
structure LvAns (p : WPr) (x : Int) (o : Bool) : Prop where
  ok : o = true ↔ WGood p ∧ flexL (arcE p.arcs) p.labels.toNat ≠ []
  yes : o = true → ∃ (a : Nat) (y : Int) (l : Nat), (flexL (arcE p.arcs) p.labels.toNat).head? = some (a : Int) ∧ FlexIs (arcE p.arcs) a y ∧ LvlIs y l ∧ x = l
  no : o = false → x = 0
theorem LvAns.eq {p : WPr} {x y : Int} {a b : Bool} (h : LvAns p x a) (h' : LvAns p y b) : x = y ∧ a = b := by
  have e : a = b := by rw [Bool.eq_iff_iff, h.ok, h'.ok]
  subst e
  refine ⟨?_, rfl⟩
  cases a with
  | false => rw [h.no rfl, h'.no rfl]
  | true =>
    obtain ⟨c, u, l, h1, h2, h3, h4⟩ := h.yes rfl
    obtain ⟨c', u', l', h5, h6, h7, h8⟩ := h'.yes rfl
    rw [h1] at h5
    have : c = c' := by have := Option.some.inj h5; omega
    subst this
    have := h2.unique h6
    subst this
    rw [h4, h8, h3.unique h7]

theorem flex_head {E : Nat → Nat → Prop} {n : Nat} (h0 : 0 < (flexL E n).length) : ∃ a : Nat, (flexL E n)[0] = (a : Int) ∧ a < n ∧ Flex E a ∧ (flexL E n).head? = some (a : Int) := by
  obtain ⟨a, ha, han, hF⟩ := flexL_mem.1 (List.getElem_mem h0)
  exact ⟨a, ha, han, hF, by rw [List.head?_eq_getElem?, List.getElem?_eq_getElem h0, ha]⟩

theorem LevelsFor_ok {w : World} {s : Sl} {p : WPr} (h : RWk w s p) :
    Calls Tryz.prog F.i_LevelsFor #[.agg #[.int .i64 p.labels, s.v]] w (Ret [.at (.int .i64), .at .bool] fun (x : Int) (ok : Bool) w' => Ext w w' ∧ LvAns p x ok) := by
  refine C_i_LevelsFor ?_
  unfold V_i_LevelsFor
  refine NEW_intro fun pp w1 hp1 hs1 hE1 hb1 => LD_is hb1 ?_
  refine call (IsWalkProblem_ok (h.ext hE1)) ?_
  rintro b w2 ⟨hb, hE2⟩
  have hE12 := hE1.trans hE2
  have no : ∀ {w' : World}, Ext w w' → ¬ (WGood p ∧ flexL (arcE p.arcs) p.labels.toNat ≠ []) → Ext w w' ∧ LvAns p 0 false := fun hE hn => ⟨hE, ⟨(fun hh => by cases hh), (fun hh => absurd hh hn)⟩, (fun hh => by cases hh), fun _ => rfl⟩
  refine cond_not (fun hf => no hE12 fun hh => by rw [hb.2 hh.1] at hf; cases hf) (fun ht => LD_is (hb1.ext hE2) ?_)
  have hg := hb.1 ht
  have hl := hg.lab
  refine call (flexibleLabels_ok (h.ext hE12) hg) ?_
  rintro r w3 ⟨hE3, hO3⟩
  have hE13 := hE2.trans hE3
  have hE03 := hE12.trans hE3
  have hrl : r.len = (flexL (arcE p.arcs) p.labels.toNat).length := hO3.1
  rw [hrl]
  refine cond_eq (fun h0 => no hE03 fun hh => hh.2 (List.length_eq_zero_iff.1 (by omega))) (fun hne => ?_)
  have h0 : 0 < (flexL (arcE p.arcs) p.labels.toNat).length := by omega
  unfold V_i_LevelsFor_k1
  intro w5 hE5 _
  have hb5 := hb1.ext (hE13.trans hE5)
  have hE05 := hE03.trans hE5
  refine LD_is hb5 (LD_is hb5 ⟨Ext.refl _, ?_⟩)
  refine call (flexibleLabels_ok (h.ext hE05) hg) ?_
  rintro r2 w6 ⟨hE6, hO6⟩
  have hR6 := (hO6.rep (flexL_I64 (by omega))).any
  obtain ⟨a, ha, han, hF, hhd⟩ := flex_head h0
  refine ⟨hE6, hR6.ixI (i := 0) h0 fun q _ hc => ⟨hE6, LD_int hc ⟨hE6, ?_⟩⟩⟩
  rw [ha]
  have hE06 := hE05.trans hE6
  refine call (flexibilityOf_ok (h.ext hE06) hg han hF) ?_
  rintro y w7 ⟨hE7, hFl, hy⟩
  have hE07 := hE06.trans hE7
  refine ⟨fun (x : Int) w' => w7 = w' ∧ ∃ l : Nat, x = l ∧ ∀ j, j < l → ((2 ^ j : Nat) : Int) < y, fun x _ => 11 - x.toNat, ⟨rfl, 0, rfl, fun j hj => by omega⟩, ?_⟩
  rintro _ _ ⟨rfl, l, rfl, hj⟩
  intros
  have hl10 := lvl_few hy hj
  refine ⟨by omega, ?_⟩
  rw [shl_one (by omega)]
  refine cond_dec (fun hlt => ?_) (fun hge => ⟨hE07, ⟨fun _ => ⟨hg, fun hn => by rw [hn] at h0; simp at h0⟩, fun _ => rfl⟩, fun _ => ⟨a, y, l, hhd, hFl, ⟨by omega, hj⟩, rfl⟩, fun hh => by cases hh⟩)
  have hl11 := lvl_few (l := l + 1) hy fun j hj2 => by
    by_cases he : j = l
    · subst he; exact hlt
    · exact hj j (by omega)
  rw [wrap_of (by omega) (by omega)]
  refine ⟨⟨rfl, l + 1, by omega, fun j hj2 => ?_⟩, by simp only []; omega⟩
  by_cases he : j = l
  · subst he; exact hlt
  · exact hj j (by omega)

theorem sFlexibleLabels_ok {w : World} {s : Sl} {p : WPr} (h : RWk w s p) :
    Calls Tryz.prog F.s_FlexibleLabels #[.agg #[.int .i64 p.labels, s.v]] w (Ret [.at .sl, .at .bool] fun (r : Sl) (ok : Bool) w' => Ext w w' ∧ (ok = true ↔ WGood p) ∧ (ok = true → R w' r (flexL (arcE p.arcs) p.labels.toNat))) := by
  refine C_s_FlexibleLabels ?_
  unfold V_s_FlexibleLabels
  refine NEW_intro fun pp w1 hp1 hs1 hE1 hb1 => LD_is hb1 ?_
  refine call (waGood_ok (h.ext hE1)) ?_
  rintro b w2 ⟨hb, hE2⟩
  have hE12 := hE1.trans hE2
  refine cond_not (fun hf => ⟨hE12, ⟨(fun hh => by cases hh), (fun hh => by rw [hb.2 hh] at hf; cases hf)⟩, fun hh => by cases hh⟩) (fun ht => LD_is (hb1.ext hE2) ?_)
  refine call (waFlexible_ok (h.ext hE12) (hb.1 ht)) ?_
  rintro r w3 ⟨hE3, hR3⟩
  exact ⟨hE12.trans hE3, ⟨fun _ => hb.1 ht, fun _ => rfl⟩, fun _ => hR3.any⟩

theorem sFlexibilityOf_ok {w : World} {s : Sl} {p : WPr} {a : Nat} {y : Int} (h : RWk w s p) (hg : WGood p) (ha : a < p.labels.toNat) (hF : Flex (arcE p.arcs) a) (hy : FlexIs (arcE p.arcs) a y) :
    Calls Tryz.prog F.s_FlexibilityOf #[.agg #[.int .i64 p.labels, s.v], .int .i64 a] w (Ret [.at (.int .i64), .at .bool] fun (x : Int) (ok : Bool) w' => x = y ∧ ok = true ∧ Ext w w') := by
  refine C_s_FlexibilityOf ?_
  unfold V_s_FlexibilityOf
  refine NEW_intro fun pp w1 hp1 hs1 hE1 hb1 => LD_is hb1 ?_
  refine call (waGood_ok (h.ext hE1)) ?_
  rintro b w2 ⟨hb, hE2⟩
  have hE12 := hE1.trans hE2
  refine cond_not (fun hf => by rw [hb.2 hg] at hf; cases hf) (fun ht => LD_is (hb1.ext hE2) ?_)
  refine call (waFlexible_ok (h.ext hE12) hg) ?_
  rintro r w3 ⟨hE3, hR3⟩
  have hE13 := hE2.trans hE3
  have hE03 := hE12.trans hE3
  refine call (l1Has_ok hR3.any _) ?_
  rintro _ _ ⟨rfl, rfl⟩
  have hin : (flexL (arcE p.arcs) p.labels.toNat).contains (a : Int) = true := List.contains_iff_mem.2 (flexL_mem.2 ⟨a, rfl, ha, hF⟩)
  refine cond_not (fun hf => absurd (hin.symm.trans hf) (by simp)) (fun _ => LD_is (hb1.ext hE13) ?_)
  refine call (waFlexibility_ok (h.ext hE03) hg ha hF) ?_
  rintro x w6 ⟨hE6, hx, _⟩
  exact ⟨hx.unique hy, rfl, hE03.trans hE6⟩

theorem cyLevels_ok {w : World} {s : Sl} {p : WPr} (h : RWk w s p) :
    Calls Tryz.prog F.s_cyLevels #[.agg #[.int .i64 p.labels, s.v]] w (Ret [.at (.int .i64), .at (.int .i64), .at .bool] fun (y : Int) (x : Int) (ok : Bool) w' => Ext w w' ∧ LvAns p x ok ∧ (ok = true → (flexL (arcE p.arcs) p.labels.toNat).head? = some y)) := by
  refine C_s_cyLevels ?_
  unfold V_s_cyLevels
  refine NEW_intro fun pp w1 hp1 hs1 hE1 hb1 => LD_is hb1 ?_
  refine call (sFlexibleLabels_ok (h.ext hE1)) ?_
  rintro r b w2 ⟨hE2, hb, hR2⟩
  have hE12 := hE1.trans hE2
  have no : ∀ {w' : World}, Ext w w' → ¬ (WGood p ∧ flexL (arcE p.arcs) p.labels.toNat ≠ []) → Ext w w' ∧ LvAns p 0 false ∧ (false = true → (flexL (arcE p.arcs) p.labels.toNat).head? = some (0 : Int)) := fun hE hn => ⟨hE, ⟨⟨(fun hh => by cases hh), (fun hh => absurd hh hn)⟩, (fun hh => by cases hh), fun _ => rfl⟩, fun hh => by cases hh⟩
  refine cond_not (fun hf => no hE12 fun hh => by rw [hb.2 hh.1] at hf; cases hf) (fun ht => ?_)
  have hg := hb.1 ht
  have hl := hg.lab
  have hR := hR2 ht
  rw [hR.len]
  refine cond_eq (fun h0 => no hE12 fun hh => hh.2 (List.length_eq_zero_iff.1 (by omega))) (fun hne => ?_)
  have h0 : 0 < (flexL (arcE p.arcs) p.labels.toNat).length := by omega
  unfold V_s_cyLevels_k1
  refine LD_is (hb1.ext hE2) ?_
  obtain ⟨a, ha, han, hF, hhd⟩ := flex_head h0
  refine hR.ixI (i := 0) h0 fun q _ hc => LD_int hc ?_
  rw [ha]
  have hrel : ∀ x y, arcE p.arcs x y → y < p.labels.toNat := fun x y hxy => (hg.rel hxy).2
  -- the number is there
  have hex : ∃ y, FlexIs (arcE p.arcs) a y ∧ y ≤ 1000 := by
    have hall := flex_all hrel hF
    have hnsq : p.labels.toNat * p.labels.toNat ≤ 144 := Nat.mul_le_mul (by omega : p.labels.toNat ≤ 12) (by omega : p.labels.toNat ≤ 12)
    have go : ∀ d k, k = d → k ≤ 144 → (∀ j, k < j → Wk (arcE p.arcs) j a a) → ∃ y, FlexIs (arcE p.arcs) a y ∧ y ≤ 1000 := by
      intro d
      induction d with
      | zero => intro k hk _ hj; exact ⟨(k : Int) + 1, ⟨k, rfl, .inl hk, hj⟩, by omega⟩
      | succ d ih =>
        intro k hk hk2 hj
        by_cases hw : Wk (arcE p.arcs) k a a
        · refine ih (k - 1) (by omega) (by omega) fun j hj2 => ?_
          by_cases he : j = k
          · subst he; exact hw
          · exact hj j (by omega)
        · exact ⟨(k : Int) + 1, ⟨k, rfl, .inr hw, hj⟩, by omega⟩
    exact go 144 144 rfl (Nat.le_refl _) fun j hj => hall j (by omega)
  obtain ⟨y, hFl, hy⟩ := hex
  refine QCALL_ib y true (fun w' hE' => sFlexibilityOf_ok ((h.ext hE12).ext hE') hg han hF hFl) ?_
  intro w4 hE4
  have hE04 := hE12.trans hE4
  refine ⟨fun (x : Int) w' => w4 = w' ∧ ∃ l : Nat, x = l ∧ ∀ j, j < l → ((2 ^ j : Nat) : Int) < y, fun x _ => 11 - x.toNat, ⟨rfl, 0, rfl, fun j hj => by omega⟩, ?_⟩
  rintro _ _ ⟨rfl, l, rfl, hj⟩
  intros
  have hl10 := lvl_few hy hj
  rw [wrap_u64 (by omega) (by omega)]
  refine ⟨by omega, ?_⟩
  rw [shl_one (by omega)]
  refine cond_dec (fun hlt => ?_) (fun hge => ?_)
  · have hl11 := lvl_few (l := l + 1) hy fun j hj2 => by
      by_cases he : j = l
      · subst he; exact hlt
      · exact hj j (by omega)
    rw [wrap_of (by omega) (by omega)]
    refine ⟨⟨rfl, l + 1, by omega, fun j hj2 => ?_⟩, by simp only []; omega⟩
    by_cases he : j = l
    · subst he; exact hlt
    · exact hj j (by omega)
  · refine (hR.ext hE4).ixI (i := 0) h0 fun q _ hc => LD_int hc ?_
    exact ⟨hE04, ⟨⟨fun _ => ⟨hg, fun hn => by rw [hn] at h0; simp at h0⟩, fun _ => rfl⟩, fun _ => ⟨a, y, l, hhd, hFl, ⟨by omega, hj⟩, rfl⟩, fun hh => by cases hh⟩, fun _ => by rw [List.head?_eq_getElem?, List.getElem?_eq_getElem h0]⟩

end Go.Proofs.YtaeledhbkdakcaaGreatDoor
end

section
/- slices.Concat at []int (with slices.Grow): the lists one behind the other, in memory of the call's own. -/
namespace Go.GX
open Go.RowKit

/-- append(s, make([]T, n)...) on a nil slice. -/
theorem run_append_made {P : Program} (w : World) (t ti ty e : TypeId) (k : IntKind) (i : TypeInfo) (z : Value) (ht : P.underlying t = some (.slice e)) (hti : P.underlying ti = some (.int k)) (hi : P.info? e = some i) (hz : i.zero = some z)
    (n : Nat) (h0 : 0 < n) (hsz : 0 < i.size) (h63 : n ≤ 1048576) (h48 : n * i.bytes ≤ 281474976710656) :
    (Builtin.append_ #[t, ti] ty #[.slice none 0 0, .int .i64 n]).run P w =
      .ok (.slice (some ⟨w.heap.size, 0, none⟩) n (grownCap w n 0 e)) (w.drew.alloc (.cells (Builtin.zeroCells z.cells n ++ Builtin.zeroCells z.cells (grownCap w n 0 e - n)) e)) := by
  have hn : n ≠ 0 := by omega
  have hw : IntKind.i64.wrap (n : Int) = n := wrap_of (by omega) (by omega)
  have h63' : ¬ (9223372036854775807 < (n : Int)) := by omega
  have h48' : ¬ (281474976710656 < Builtin.nextslicecap n 0 * i.bytes) := by rw [nextslicecap_zero h0]; omega
  have h48'' : ¬ (281474976710656 < (n : Int) * (i.bytes : Int)) := by
    have : ((n * i.bytes : Nat) : Int) ≤ 281474976710656 := by omega
    push_cast at this; omega
  have hns : ¬ (n * i.size = 0) := by
    have := Nat.mul_pos h0 hsz; omega
  have hneg : ¬ ((n : Int) < 0) := by omega
  simp [Builtin.append_, run_underlying ht, run_underlying hti, sizeOf, typeInfo, zeroValue, hi, hz, asInt, asIntOf, hw, hneg, h48'', hn, h63', h48', Question.forced, run_firstCells_none, newRow, grownCap]
  exact fun h => absurd h hns

/-- An empty slice of the call's own, in a block made just now. -/
theorem own_empty {α : Type} [Flat α] {w w' : World} {e : TypeId} {cap : Nat} {cur : Array Value} (hg : w'.heap[w.heap.size]? = some (.cells cur e (0, 0))) (hm : cap ≤ maxLen) (hs : cur.size = cap * Rep.sz α) : OwnL w' w.heap.size e ⟨some ⟨w.heap.size, 0, none⟩, 0, cap⟩ ([] : List α) :=
  ⟨rfl, by simp, .inr ⟨w.heap.size, cap, cur, rfl, Nat.le_refl _, hg, Nat.zero_le _, hm, hs, by simp⟩⟩

/-- A literal of two slices. -/
theorem RUN_lits2 {P : Program} {t e : TypeId} {bytes : Nat} {z : Value} (hT : SlT P t e 1 bytes z) (x y : Sl) {w : World} {K : Sl → World → Prop}
    (hk : ∀ s w', Ext w w' → OwnL w' w.heap.size e s [x, y] → K s w') : RUN P (.at .sl) (Instr.buildSlice t 2 #[(0, x.v), (1, y.v)]) w K := by
  obtain ⟨i, hi, hz0, hsz, hby⟩ := hT.parts
  have hr := run_buildSlice (P := P) w t e 2 #[(0, x.v), (1, y.v)] #[x.v, y.v] i z hT.under hi hz0 (by rw [hsz]; omega) (by rw [hsz]; omega) (by
    have hp : (#[(0, x.v), (1, y.v)] : Array (Nat × Value)).toList = (([x.v, y.v]).zipIdx 0).map fun x => (x.2, x.1) := rfl
    rw [hsz, hp, fill_ones _ 0 _ (by intro v hv; simp at hv; rcases hv with rfl | rfl <;> rfl) (by simp)]
    simp)
  unfold RUN
  rw [hr]
  refine hk ⟨some ⟨w.heap.size, 0, none⟩, 2, 2⟩ _ (ext_push w _) ⟨rfl, ?_⟩
  have := World.ownsRow_lit (base := w.heap.size) (e := e) (size := 1) w #[x.v, y.v] 2 (Nat.le_refl _) (by unfold maxLen; omega) (by simp)
  exact this

end Go.GX
namespace Go.Proofs.YtaeledhbkdakcaaGreatDoor
open Go.GX Go.RowKit
set_option maxRecDepth 100000

theorem grow_nil_ok {n : Nat} (hn : n ≤ 1048576) (w : World) :
    Calls Tryz.prog F.slices_Grow_sl_int_int #[.slice none 0 0, .int .i64 n] w (Ret [.at .sl] fun (r : Sl) w' => Ext w w' ∧ OwnL w' w.heap.size T.t_int r ([] : List Int)) := by
  refine C_slices_Grow_sl_int_int (s := ⟨none, 0, 0⟩) ?_
  unfold V_slices_Grow_sl_int_int
  refine cond_df (by omega) ?_
  have hcap : ∀ {K : Int → World → Prop}, K 0 w → RUN Tryz.prog (.at (.int .i64)) (bsem .cap #[T.t_sl_int] T.t_int #[(⟨none, 0, 0⟩ : Sl).v]) w K := fun hk => by
    have hu := slt_int.under
    unfold RUN
    show (match (Builtin.cap_ #[T.t_sl_int] T.t_int #[.slice none 0 0]).run Tryz.prog w with | .ok v w' => _ | .halt _ _ => False)
    have : (Builtin.cap_ #[T.t_sl_int] T.t_int #[.slice none 0 0]).run Tryz.prog w = .ok (.int .i64 0) w := by simp [Builtin.cap_, underlying_run hu, goInt]
    rw [this]
    exact hk
  refine hcap ?_
  have e1 : IntKind.i64.wrap ((n : Int) - IntKind.i64.wrap (0 - ((⟨none, 0, 0⟩ : Sl).len : Int))) = n := by
    have e0 : IntKind.i64.wrap (0 - ((⟨none, 0, 0⟩ : Sl).len : Int)) = 0 := by rw [wrap_of (by simp) (by simp)]; rfl
    rw [e0, wrap_of (by omega) (by omega)]; omega
  rw [e1]
  refine cond_dec (fun hpos => ?_) (fun hz => ⟨Ext.refl _, OwnL.nil _ _ _⟩)
  refine hcap ?_
  refine ⟨by simp, by simp, by simp, ?_⟩
  obtain ⟨i, hi, hz0, hsz, hby⟩ := slt_int.parts
  have hr := run_append_made (P := Tryz.prog) w T.t_sl_int T.t_int T.t_sl_int T.t_int .i64 i (.int .i64 0) slt_int.under (by kernel_rfl) hi hz0 n (by omega) (by rw [hsz]; decide) hn (by rw [hby]; omega)
  show RUN Tryz.prog (.at .sl) (bsem .append #[T.t_sl_int, T.t_int] T.t_sl_int #[.slice none 0 0, .int .i64 n]) w _
  unfold RUN
  show (match (Builtin.append_ #[T.t_sl_int, T.t_int] T.t_sl_int #[.slice none 0 0, .int .i64 n]).run Tryz.prog w with | .ok v w' => _ | .halt _ _ => False)
  rw [hr]
  have hge := grownCap_ge w n 0 T.t_int
  have hle := grownCap_le_maxLen w n 0 T.t_int (by unfold maxLen; omega)
  have hheap : (w.drew.alloc (.cells (Builtin.zeroCells (Value.int .i64 0).cells n ++ Builtin.zeroCells (Value.int .i64 0).cells (grownCap w n 0 T.t_int - n)) T.t_int)).heap = w.heap.push (.cells (Builtin.zeroCells (Value.int .i64 0).cells n ++ Builtin.zeroCells (Value.int .i64 0).cells (grownCap w n 0 T.t_int - n)) T.t_int) := rfl
  have hE : Ext w (w.drew.alloc (.cells (Builtin.zeroCells (Value.int .i64 0).cells n ++ Builtin.zeroCells (Value.int .i64 0).cells (grownCap w n 0 T.t_int - n)) T.t_int)) := ⟨rfl, rfl, rfl, by rw [hheap]; simp, fun k hk => by rw [hheap]; simp [Array.getElem?_push, Nat.ne_of_lt hk]⟩
  generalize w.drew.alloc (.cells (Builtin.zeroCells (Value.int .i64 0).cells n ++ Builtin.zeroCells (Value.int .i64 0).cells (grownCap w n 0 T.t_int - n)) T.t_int) = W at *
  generalize hcap' : grownCap w n 0 T.t_int = c at *
  have hone : (Value.int .i64 0).cells = #[.int .i64 0] := rfl
  have fin : SLC ⟨some ⟨w.heap.size, 0, none⟩, n, c⟩ none (some (0 : Int)) 1 fun x => Ext w W ∧ OwnL W w.heap.size T.t_int x ([] : List Int) := by
    refine ⟨by simp, by simp, by simp, hE, ?_⟩
    have hc0 : c ≠ 0 := by omega
    simp only [Option.getD_none, Int.toNat_zero, Option.getD_some, Nat.sub_zero, hc0, if_false, Option.map_some, Nat.zero_mul, add_zero']
    have hg : W.heap[w.heap.size]? = some (.cells (Builtin.zeroCells (Value.int .i64 0).cells n ++ Builtin.zeroCells (Value.int .i64 0).cells (c - n)) T.t_int (0, 0)) := by rw [hheap]; exact Array.getElem?_push_size
    refine own_empty (α := Int) hg hle ?_
    rw [Array.size_append, size_zeroCells, size_zeroCells, hone]
    simp [Rep.sz]
    omega
  exact fin

/-- The lists one behind the other. -/
theorem concat_at {w : World} {s : Sl} {L : List (List Int)} {m : Nat} (h : R w s L) (hl0 : L.length ≤ 1048576) (hl : m * L.length ≤ 1048576) (hll : ∀ r ∈ L, r.length ≤ m) :
    Calls Tryz.prog F.slices_Concat_sl_int_int #[s.v] w (Ret [.at .sl] fun (r : Sl) w' => Ext w w' ∧ OwnL w' w.heap.size T.t_int r L.flatten) := by
  refine C_slices_Concat_sl_int_int ?_
  unfold V_slices_Concat_sl_int_int
  rw [h.len]
  have hpl0 : ∀ i, i ≤ L.length → ((L.take i).flatten).length ≤ m * i := by
    intro i
    induction i with
    | zero => simp
    | succ i ih =>
      intro hi
      rw [Nat.mul_succ]
      rw [List.take_succ_eq_append_getElem (by omega), List.flatten_append, List.length_append]
      have := ih (by omega)
      have := hll _ (List.getElem_mem (show i < L.length by omega))
      simp only [List.flatten_cons, List.flatten_nil, List.append_nil]; omega
  have hpl : ∀ i, i ≤ L.length → ((L.take i).flatten).length ≤ 1048576 := fun i hi => by
    have h1 := hpl0 i hi
    have h2 := Nat.mul_le_mul_left m hi
    omega
  refine ⟨IN2 L.length fun i x w' => w = w' ∧ x = ((L.take i).flatten).length, MN2 L.length, IN2_zero ⟨rfl, by simp⟩, ?_⟩
  rintro _ _ _ ⟨i, rfl, hi, rfl, rfl⟩
  intros
  have h1 := hpl i hi
  refine cond_dec (fun hlt => ?_) (fun hge => ?_)
  · have hi' : i < L.length := by omega
    have h2 := hpl (i + 1) (by omega)
    have e2 : ((L.take (i + 1)).flatten).length = ((L.take i).flatten).length + L[i].length := by
      rw [List.take_succ_eq_append_getElem hi', List.flatten_append, List.length_append]; simp only [List.flatten_cons, List.flatten_nil, List.append_nil]
    refine h.ixL hi' fun p r hr hc => LD_sl hc ?_
    rw [hr.len, wrap_of (n := _ + _) (by omega) (by omega)]
    refine cond_df (by omega) (IN2_next (by omega) hi' ⟨rfl, by omega⟩)
  · have : i = L.length := by omega
    subst this
    rw [List.take_length] at h1 ⊢
    refine call (grow_nil_ok (by omega) w) ?_
    rintro r w1 ⟨hE1, hO1⟩
    refine ⟨IN2 L.length fun i (x : Sl) w' => Ext w w' ∧ OwnL w' w.heap.size T.t_int x (L.take i).flatten, MN2 L.length, IN2_zero ⟨hE1, by simpa using hO1⟩, ?_⟩
    rintro x _ w2 ⟨i, rfl, hi, hE2, hO2⟩
    intros
    refine cond_dec (fun hlt => ?_) (fun hge => ?_)
    · have hi' : i < L.length := by omega
      have h2 := hpl (i + 1) (by omega)
      have e2 : ((L.take (i + 1)).flatten) = ((L.take i).flatten) ++ L[i] := by
        rw [List.take_succ_eq_append_getElem hi', List.flatten_append]; simp
      have e3 := congrArg List.length e2
      rw [List.length_append] at e3
      refine (h.ext hE2).ixL hi' fun p r hr hc => LD_sl hc ?_
      refine RUN_append (α := Int) slt_int hO2 hE2.size_le hr.any (by omega) (by unfold maxLen; omega) fun r' w3 hO3 hs3 => ?_
      exact IN2_next (by omega) hi' ⟨hs3.ext0 hE2 (fun k hk => (hO2.blk k hk).1), by rw [e2]; exact hO3⟩
    · have : i = L.length := by omega
      subst this
      exact ⟨hE2, by simpa using hO2⟩

theorem concat_ok {w : World} {s : Sl} {L : List (List Int)} (h : R w s L) (hl : L.length ≤ 1000) (hll : ∀ r ∈ L, r.length ≤ 1000) :
    Calls Tryz.prog F.slices_Concat_sl_int_int #[s.v] w (Ret [.at .sl] fun (r : Sl) w' => Ext w w' ∧ OwnL w' w.heap.size T.t_int r L.flatten) :=
  concat_at (m := 1000) h (by omega) (by omega) hll

end Go.Proofs.YtaeledhbkdakcaaGreatDoor
end

section
/- Labelings of cycles by their identifiers: what is answered, both sides. -/
namespace Go.Proofs.YtaeledhbkdakcaaGreatDoor
open Go.GX Go.RowKit
set_option maxRecDepth 100000

/-! ### Identifiers of a cycle -/

theorem ringIds_iff {l : List Int} : RingIds l ↔ (2 ≤ l.length ∧ l.length ≤ 180) ∧ IdsOk l l.length :=
  ⟨fun h => ⟨h.len, h.lab, h.nodup, .inr rfl⟩, fun h => ⟨h.1, h.2.1, h.2.2.1⟩⟩

theorem areRingIds_ok {w : World} {s : Sl} {l : List Int} (h : R w s l) (hl : l.length ≤ 1048576) :
    Calls Tryz.prog F.i_areRingIds #[s.v] w (Ret [.at .bool] fun (b : Bool) w' => (b = true ↔ RingIds l) ∧ Ext w w') := by
  refine C_i_areRingIds ?_
  unfold V_i_areRingIds
  have hring : Calls Tryz.prog F.i_isRing #[s.v] w (Ret [.at .bool] fun (b : Bool) w' => b = inR s.len 2 180 ∧ w = w') := by
    refine C_i_isRing ?_
    unfold V_i_isRing
    refine call (within_ok _ 2 180 w) ?_
    rintro b _ ⟨hb, rfl⟩
    exact ⟨hb, rfl⟩
  refine call hring ?_
  rintro b _ ⟨hb, rfl⟩
  rw [h.len] at hb ⊢
  refine cond_b (fun ht => ?_) (fun hf => ⟨⟨(fun hh => by cases hh), fun hh => absurd (by have := hh.len; omega) (inR_false (hb ▸ hf))⟩, Ext.refl _⟩)
  have h2 := inR_true (hb ▸ ht)
  refine call (idsOk_ok h hl l.length) ?_
  rintro c w2 ⟨hc, hE2⟩
  exact ⟨by rw [ringIds_iff, hc]; exact ⟨fun hh => ⟨by omega, hh⟩, fun hh => hh.2⟩, hE2⟩

theorem cyIds_ok {w : World} {s : Sl} {l : List Int} (h : R w s l) :
    Calls Tryz.prog F.s_cyIds #[s.v] w (Ret [.at .bool] fun (b : Bool) w' => (b = true ↔ RingIds l) ∧ w = w') := by
  refine C_s_cyIds ?_
  unfold V_s_cyIds
  rw [h.len]
  refine ⟨IN l.length fun i w' => w = w' ∧ AllIn (l.take i) 1 999999 ∧ (l.take i).Nodup, MN l.length, IN_zero ⟨rfl, fun x hx => by simp at hx, by simp⟩, ?_⟩
  rintro x _ ⟨i, rfl, hi', rfl, ha, hn⟩
  intros
  refine cond_dec (fun hlt => ?_) (fun hge => ?_)
  · have hlt' : i < l.length := by omega
    refine h.ixI hlt' fun p _ hc => LD_int hc ?_
    refine call (l1In_ok _ _ _ _) ?_
    rintro b _ ⟨hb, rfl⟩
    refine cond_not (fun hf => ⟨⟨(fun hh => by cases hh), fun hh => absurd (hh.lab _ (List.getElem_mem hlt')) (inR_false (hb ▸ hf))⟩, rfl⟩) (fun ht => ?_)
    refine h.take hi' rfl fun s' hs' => ?_
    refine call (l1Has_ok hs' _) ?_
    rintro b _ ⟨rfl, rfl⟩
    refine cond_b (fun hc => ⟨⟨(fun hh => by cases hh), fun hall => ?_⟩, rfl⟩) (fun hc => IN_next h.le hlt' ⟨rfl, allIn_take_succ hlt' ha (inR_true (hb ▸ ht)), nodup_take_succ hlt' hn (by simpa using hc)⟩)
    have hmem : l[i] ∈ l.take i := by simpa using hc
    obtain ⟨j, hj, he⟩ := List.mem_take_iff_getElem.1 hmem
    exact absurd he ((List.pairwise_iff_getElem.1 hall.nodup) j i (by omega) hlt' (by omega))
  · have : i = l.length := by omega
    subst this
    simp only [List.take_length] at ha hn
    refine C_s_cyLong ?_
    unfold V_s_cyLong
    refine call (l1In_ok _ _ _ _) ?_
    rintro b _ ⟨hb, rfl⟩
    rw [h.len] at hb
    refine ⟨?_, rfl⟩
    cases b with
    | true => have := inR_true hb.symm; exact ⟨fun _ => ⟨by omega, ha, hn⟩, fun _ => rfl⟩
    | false => have := inR_false hb.symm; exact ⟨(fun hh => by cases hh), fun hh => absurd (by have := hh.len; omega) this⟩

/-! ### What is answered -/

/-- The place of the least number. -/
def MinAt (l : List Int) (j : Nat) : Prop := j < l.length ∧ ∀ x ∈ l, at0 l j ≤ x
theorem MinAt.unique {l : List Int} {i j : Nat} (hn : l.Nodup) (h : MinAt l i) (h' : MinAt l j) : i = j := by
  have h1 := h.2 _ (at0_mem h'.1)
  have h2 := h'.2 _ (at0_mem h.1)
  exact nodup_at0 hn h.1 h'.1 (by omega)
/-- A list turned so that it begins at a place. -/
def rotL (q : List Int) (k at' : Nat) : List Int := q.drop (k - at') ++ q.take (k - at')
theorem rotL_len {q : List Int} {k at' : Nat} (h : q.length = k) : (rotL q k at').length = k := by
  unfold rotL
  rw [List.length_append, List.length_drop, List.length_take]; omega

structure CyAsk (p : WPr) (ids : List Int) : Prop where
  good : WGood p
  ring : RingIds ids
def NoLoop (p : WPr) : Prop := ∀ a, a < p.labels.toNat → ¬ arcE p.arcs a a
inductive CyAns (p : WPr) (ids : List Int) : List Int → Bool → Prop
  | bad : ¬ CyAsk p ids → CyAns p ids [] false
  | loop {a : Nat} : CyAsk p ids → a < p.labels.toNat → arcE p.arcs a a → (∀ c, c < a → ¬ arcE p.arcs c c) → CyAns p ids (List.replicate ids.length (a : Int)) true
  | fill {a l : Nat} {out : List Int} : CyAsk p ids → NoLoop p → LvAns p (l : Int) true → (flexL (arcE p.arcs) p.labels.toNat).head? = some (a : Int) → FillIs (arcE p.arcs) a ids.length (spacedL ids l) out → CyAns p ids out true
  | noFill {a l i : Nat} : CyAsk p ids → NoLoop p → LvAns p (l : Int) true → (flexL (arcE p.arcs) p.labels.toNat).head? = some (a : Int) → i < (spacedL ids l).length → ¬ Wk (arcE p.arcs) (gapN ids.length (spacedL ids l) i) a a → CyAns p ids [] false
  | first {a j : Nat} {q : List Nat} : CyAsk p ids → NoLoop p → LvAns p 0 false → ids.length ≤ 60 → a < p.labels.toNat → BetP (arcE p.arcs) a a ids.length ids.length q → (∀ c, c < a → ¬ Wk (arcE p.arcs) ids.length c c) → MinAt ids j → CyAns p ids (rotL (wlk (q.take ids.length)) ids.length j) true
  | noFirst : CyAsk p ids → NoLoop p → LvAns p 0 false → (60 < ids.length ∨ ∀ a, a < p.labels.toNat → ¬ Wk (arcE p.arcs) ids.length a a) → CyAns p ids [] false

theorem LvAns.tf {p : WPr} {x y : Int} (h : LvAns p x true) (h' : LvAns p y false) : False := by
  have := (h.eq h').2
  cases this
theorem FillIs.wk {E : Nat → Nat → Prop} {a k i : Nat} {m out : List Int} (h : FillIs E a k m out) (hi : i < m.length) : Wk E (gapN k m i) a a := by
  obtain ⟨q, hq, _⟩ := h.at' i hi
  have := hq.wk 0 (Nat.zero_le _)
  rw [hq.fst] at this
  exact this
theorem BetP.start_wk {E : Nat → Nat → Prop} {a b k j : Nat} {q : List Nat} (h : BetP E a b k j q) : Wk E k a b := by
  have := h.wk 0 (Nat.zero_le _)
  rw [h.fst] at this
  exact this

theorem CyAns.eq {p : WPr} {ids x y : List Int} {o u : Bool} (h : CyAns p ids x o) (h' : CyAns p ids y u) : x = y ∧ o = u := by
  cases h with
  | bad h1 => cases h' with
    | bad _ => exact ⟨rfl, rfl⟩
    | loop g _ _ _ => exact absurd g h1
    | fill g _ _ _ _ => exact absurd g h1
    | noFill g _ _ _ _ _ => exact absurd g h1
    | first g _ _ _ _ _ _ _ => exact absurd g h1
    | noFirst g _ _ _ => exact absurd g h1
  | @loop a h1 h2 h3 h4 => cases h' with
    | bad g => exact absurd h1 g
    | @loop b _ g2 g3 g4 =>
      have : a = b := by
        rcases Nat.lt_trichotomy a b with e | e | e
        · exact absurd h3 (g4 a e)
        · exact e
        · exact absurd g3 (h4 b e)
      subst this; exact ⟨rfl, rfl⟩
    | fill _ g _ _ _ => exact absurd h3 (g _ h2)
    | noFill _ g _ _ _ _ => exact absurd h3 (g _ h2)
    | first _ g _ _ _ _ _ _ => exact absurd h3 (g _ h2)
    | noFirst _ g _ _ => exact absurd h3 (g _ h2)
  | @fill a l out h1 h2 h3 h4 h5 => cases h' with
    | bad g => exact absurd h1 g
    | loop _ g2 g3 _ => exact absurd g3 (h2 _ g2)
    | @fill b m _ _ _ g3 g4 g5 =>
      have e1 := (h3.eq g3).1
      have e2 := h4.symm.trans g4
      have e3 : l = m := by omega
      have e4 : a = b := by have := Option.some.inj e2; omega
      subst e3; subst e4
      exact ⟨h5.unique (h1.ring.spaced l) g5, rfl⟩
    | @noFill b m i _ _ g3 g4 g5 g6 =>
      have e1 := (h3.eq g3).1
      have e2 := h4.symm.trans g4
      have e3 : l = m := by omega
      have e4 : a = b := by have := Option.some.inj e2; omega
      subst e3; subst e4
      exact absurd (h5.wk g5) g6
    | first _ _ g _ _ _ _ _ => exact (h3.tf g).elim
    | noFirst _ _ g _ => exact (h3.tf g).elim
  | @noFill a l i h1 h2 h3 h4 h5 h6 => cases h' with
    | bad g => exact ⟨rfl, rfl⟩
    | loop _ g2 g3 _ => exact absurd g3 (h2 _ g2)
    | @fill b m _ _ _ g3 g4 g5 =>
      have e1 := (h3.eq g3).1
      have e2 := h4.symm.trans g4
      have e3 : l = m := by omega
      have e4 : a = b := by have := Option.some.inj e2; omega
      subst e3; subst e4
      exact absurd (g5.wk h5) h6
    | noFill _ _ _ _ _ _ => exact ⟨rfl, rfl⟩
    | first _ _ g _ _ _ _ _ => exact (h3.tf g).elim
    | noFirst _ _ g _ => exact (h3.tf g).elim
  | @first a j q h1 h2 h3 h4 h5 h6 h7 h8 => cases h' with
    | bad g => exact absurd h1 g
    | loop _ g2 g3 _ => exact absurd g3 (h2 _ g2)
    | fill _ _ g _ _ => exact (g.tf h3).elim
    | noFill _ _ g _ _ _ => exact (g.tf h3).elim
    | @first b i r _ _ _ _ g5 g6 g7 g8 =>
      have : a = b := by
        rcases Nat.lt_trichotomy a b with e | e | e
        · exact absurd h6.start_wk (g7 a e)
        · exact e
        · exact absurd g6.start_wk (h7 b e)
      subst this
      have := h6.unique g6
      subst this
      have := h8.unique h1.ring.nodup g8
      subst this
      exact ⟨rfl, rfl⟩
    | noFirst _ _ _ g =>
      rcases g with g | g
      · omega
      · exact absurd h6.start_wk (g a h5)
  | noFirst h1 h2 h3 h4 => cases h' with
    | bad g => exact ⟨rfl, rfl⟩
    | loop _ g2 g3 _ => exact absurd g3 (h2 _ g2)
    | fill _ _ g _ _ => exact (g.tf h3).elim
    | noFill _ _ g _ _ _ => exact (g.tf h3).elim
    | @first b i r _ _ _ g4 g5 g6 g7 g8 =>
      rcases h4 with h4 | h4
      · omega
      · exact absurd g6.start_wk (h4 b g5)
    | noFirst _ _ _ _ => exact ⟨rfl, rfl⟩

theorem LvAns.few {p : WPr} {x : Int} (h : LvAns p x true) (hg : WGood p) : ∃ (a l : Nat), (flexL (arcE p.arcs) p.labels.toNat).head? = some (a : Int) ∧ a < p.labels.toNat ∧ x = l ∧ l ≤ 10 ∧ ∃ hne : 0 < (flexL (arcE p.arcs) p.labels.toNat).length, (flexL (arcE p.arcs) p.labels.toNat)[0] = (a : Int) := by
  obtain ⟨a, y, l, hhd, hFl, hlv, rfl⟩ := h.yes rfl
  have hne : 0 < (flexL (arcE p.arcs) p.labels.toNat).length := by
    cases hq : flexL (arcE p.arcs) p.labels.toNat with
    | nil => rw [hq] at hhd; cases hhd
    | cons _ _ => simp
  obtain ⟨a', ha', han, hF, hhd'⟩ := flex_head hne
  have : a' = a := by rw [hhd] at hhd'; have := Option.some.inj hhd'; omega
  subst this
  obtain ⟨k, rfl, h1, h2⟩ := hFl
  have hall := flex_all (fun x y hxy => (hg.rel hxy).2) hF
  have hl := hg.lab
  have hnsq : p.labels.toNat * p.labels.toNat ≤ 144 := Nat.mul_le_mul (by omega : p.labels.toNat ≤ 12) (by omega : p.labels.toNat ≤ 12)
  have hk : k ≤ 144 := by
    rcases h1 with h1 | h1
    · omega
    · rcases Nat.lt_or_ge 144 k with h3 | h3
      · exact absurd (hall k (by omega)) h1
      · exact h3
  exact ⟨a', l, hhd, han, rfl, lvl_few (x := (k : Int) + 1) (by omega) hlv.2, hne, ha'⟩

/-! ### The program -/

theorem min_ok {w : World} {s : Sl} {l : List Int} (h : R w s l) (h0 : 0 < l.length) :
    Calls Tryz.prog F.slices_Min_sl_int_int #[s.v] w (Ret [.at (.int .i64)] fun (r : Int) w' => (r ∈ l ∧ ∀ x ∈ l, r ≤ x) ∧ w = w') := by
  refine C_slices_Min_sl_int_int ?_
  unfold V_slices_Min_sl_int_int
  rw [h.len]
  have hle := h.le
  refine cond_df (by omega) ?_
  refine h.ixI (i := 0) h0 fun q _ hc => LD_int hc ?_
  refine ⟨fun (m i : Int) w' => w = w' ∧ ∃ j : Nat, i = j ∧ 1 ≤ j ∧ j ≤ l.length ∧ m ∈ l ∧ ∀ x ∈ l.take j, m ≤ x, fun _ i _ => l.length - i.toNat, ⟨rfl, 1, rfl, Nat.le_refl _, h0, List.getElem_mem h0, fun x hx => ?_⟩, ?_⟩
  · obtain ⟨y, t, rfl⟩ : ∃ y t, l = y :: t := by cases l with
      | nil => simp at h0
      | cons y t => exact ⟨y, t, rfl⟩
    simp at hx
    subst hx; exact Int.le_refl _
  rintro m _ _ ⟨rfl, j, rfl, hj1, hj, hm, hall⟩
  intros
  refine cond_dec (fun hlt => ?_) (fun hge => ?_)
  · have hj' : j < l.length := by omega
    refine h.ixI hj' fun q2 _ hc2 => LD_int hc2 ?_
    refine RUN_min ?_
    rw [wrap_of (by omega) (by omega)]
    refine ⟨⟨rfl, j + 1, by omega, by omega, by omega, ?_, fun x hx => ?_⟩, by simp only []; omega⟩
    · split
      · exact List.getElem_mem hj'
      · exact hm
    · rw [List.take_succ_eq_append_getElem hj'] at hx
      rcases List.mem_append.1 hx with hx | hx
      · have := hall x hx
        split <;> omega
      · rw [List.mem_singleton.1 hx]
        split <;> omega
  · have : j = l.length := by omega
    subst this
    rw [List.take_length] at hall
    exact ⟨⟨hm, hall⟩, rfl⟩

theorem indexC_ok {w : World} {s : Sl} {l : List Int} (h : R w s l) {v : Int} (hv : v ∈ l) :
    Calls Tryz.prog F.slices_Index_sl_int_int #[s.v, .int .i64 v] w (Ret [.at (.int .i64)] fun (r : Int) w' => (∃ j : Nat, r = j ∧ j < l.length ∧ at0 l j = v) ∧ w = w') := by
  refine C_slices_Index_sl_int_int ?_
  unfold V_slices_Index_sl_int_int
  rw [h.len]
  have hle := h.le
  refine ⟨IN l.length fun i w' => w = w' ∧ v ∉ l.take i, MN l.length, IN_zero ⟨rfl, by simp⟩, ?_⟩
  rintro _ _ ⟨i, rfl, hi, rfl, hn⟩
  intros
  refine cond_dec (fun hlt => ?_) (fun hge => ?_)
  · have hi' : i < l.length := by omega
    refine h.ixI hi' fun q _ hc => LD_int hc ?_
    refine cond_eq (fun heq => ⟨⟨i, rfl, hi', by rw [at0_get hi', heq]⟩, rfl⟩) (fun hne => IN_next hle hi' ⟨rfl, not_mem_take_succ hi' hn (Ne.symm hne)⟩)
  · have : i = l.length := by omega
    subst this
    rw [List.take_length] at hn
    exact absurd hv hn

theorem wlk_rng {q : List Nat} {n : Nat} (h : ∀ i, i < q.length → q.getD i 0 < n) : ∀ x ∈ wlk q, 0 ≤ x ∧ x < n := fun x hx => by
  obtain ⟨i, hi, rfl⟩ := List.getElem_of_mem hx
  rw [wlk_get]
  rw [wlk_len] at hi
  have := h i hi
  omega
theorem wlk12 {E : Nat → Nat → Prop} {a b k j n : Nat} {q : List Nat} (hB : BetP E a b k j q) (hE : ∀ x y, E x y → x < n ∧ y < n) (ha : a < n) (hn : n ≤ 12) : ∀ x ∈ wlk q, 0 ≤ x ∧ x < 12 := fun x hx => by
  have := wlk_rng (n := n) (fun i hi => hB.lab hE ha i (by rw [hB.len] at hi; omega)) x hx
  omega
theorem rotL_mem {q : List Int} {k at' : Nat} {x : Int} (h : x ∈ rotL q k at') : x ∈ q := by
  rcases List.mem_append.1 h with h | h
  · exact List.mem_of_mem_drop h
  · exact List.mem_of_mem_take h
theorem small12 {l : List Int} (h : ∀ x ∈ l, 0 ≤ x ∧ x < 12) : ∀ x ∈ l, I64 x := fun x hx => by
  have := h x hx
  unfold I64; omega

theorem slt_rowsC : SlT Tryz.prog T.t_sl_sl_int T.t_sl_int 1 24 (.slice none 0 0) := ⟨by kernel_rfl, by kernel_rfl, rfl, by decide⟩

theorem SolveCycle_ok {w : World} (g : GT w) {s t : Sl} {p : WPr} {ids : List Int} (h : RWk w s p) (hI : R w t ids) (hl0 : ids.length ≤ 1048576) :
    Calls Tryz.prog F.i_SolveCycle #[.agg #[.int .i64 p.labels, s.v], t.v] w (Ret [.at .sl, .at .bool] fun (r : Sl) (ok : Bool) w' => Ext w w' ∧ ∃ out, OutL w.heap.size w' r out ∧ CyAns p ids out ok) := by
  refine C_i_SolveCycle ?_
  unfold V_i_SolveCycle
  refine NEW_intro fun pp w1 hp1 hs1 hE1 hb1 => LD_is hb1 ?_
  refine call (IsWalkProblem_ok (h.ext hE1)) ?_
  rintro b w2 ⟨hb, hE2⟩
  have hE02 := hE1.trans hE2
  refine cond_not (fun hf => ⟨hE02, [], .nil _ _, .bad fun hh => by rw [hb.2 hh.good] at hf; cases hf⟩) (fun ht => ?_)
  have hg := hb.1 ht
  have hl := hg.lab
  refine call (areRingIds_ok (hI.ext hE02) hl0) ?_
  rintro c w3 ⟨hc, hE3⟩
  have hE03 := hE02.trans hE3
  refine cond_not (fun hf => ⟨hE03, [], .nil _ _, .bad fun hh => by rw [hc.2 hh.ring] at hf; cases hf⟩) (fun ht3 => ?_)
  have hr := hc.1 ht3
  have hlen := hr.len
  have hask : CyAsk p ids := ⟨hg, hr⟩
  unfold V_i_SolveCycle_k1
  have hb3 := hb1.ext (hE2.trans hE3)
  refine LD_is hb3 ?_
  refine call (loopOf_ok (h.ext hE03) hg) ?_
  rintro x w5 ⟨hE5, hL⟩
  have hE05 := hE03.trans hE5
  have hrelE : ∀ x y, arcE p.arcs x y → x < p.labels.toNat ∧ y < p.labels.toNat := fun x y hxy => hg.rel hxy
  have hn12 : p.labels.toNat ≤ 12 := by omega
  rcases hL with ⟨a, rfl, ha, hl1, hl2⟩ | ⟨rfl, hno⟩
  · refine cond_dt (by omega) ?_
    refine RUN_lit1 (α := Int) slt_int (a : Int) rfl (by decide) fun y w6 hE6 hO6 => ?_
    have hE06 := hE05.trans hE6
    rw [hI.len]
    refine call (repeat_ok (hO6.rep (by intro z hz; rw [List.mem_singleton.1 hz]; show I64 _; unfold I64; omega)).any (by unfold I64; omega) (n := ids.length) hl0) ?_
    rintro r7 w7 ⟨hE7, hO7⟩
    exact ⟨hE06.trans hE7, _, ⟨hO7.low hE06.size_le, (fun z hz => by rw [List.eq_of_mem_replicate hz]; unfold I64; omega), by simpa using hl0⟩, .loop hask ha hl1 hl2⟩
  refine cond_df (by omega) ?_
  have hb5 := hb3.ext hE5
  refine LD_is hb5 ?_
  refine call (LevelsFor_ok (h.ext hE05)) ?_
  rintro lv ok w8 ⟨hE8, hLv⟩
  have hE08 := hE05.trans hE8
  have hb8 := hb5.ext hE8
  refine cond_b (fun hok => ?_) (fun hnok => ?_)
  · subst hok
    intro w9 hE9 _
    have hE09 := hE08.trans hE9
    have hb9 := hb8.ext hE9
    refine LD_is hb9 (LD_is hb9 ?_)
    refine call (flexibleLabels_ok (h.ext hE09) hg) ?_
    rintro r10 w10 ⟨hE10, hO10⟩
    obtain ⟨a, l, hhd, han, hlv, hl10, hne, ha'⟩ := hLv.few hg
    subst hlv
    refine ⟨hE10, (hO10.rep (flexL_I64 (by omega))).any.ixI (i := 0) hne fun q _ hc => LD_int hc ?_⟩
    rw [ha']
    have hE0_10 := hE09.trans hE10
    refine call (spacedMarks_ok (g.ext hE0_10) (hI.ext hE0_10) hr (by omega)) ?_
    rintro r11 w11 ⟨hE11, hO11⟩
    have hE0_11 := hE0_10.trans hE11
    have hm := hr.spaced l
    rw [hI.len]
    refine ⟨hE11, ?_⟩
    refine call (FillCycle_ok (h.ext hE0_11) hg han (hO11.rep (hm.i64 (by omega))).any hm hlen) ?_
    rintro r12 ok12 w12 ⟨hE12, hA12⟩
    refine ⟨hE12, Ext.refl _, Ext.refl _, Ext.refl _, hE0_11.trans hE12, ?_⟩
    rcases hA12 with ⟨rfl, out, h1, h2, h3⟩ | ⟨rfl, rfl, i, hi, hn⟩
    · exact ⟨out, ⟨h3.low hE0_11.size_le, small12 h2, by rw [h1.len]; exact hl0⟩, .fill hask hno hLv hhd h1⟩
    · exact ⟨[], .nil _ _, .noFill hask hno hLv hhd hi hn⟩
  · subst hnok
    have hx0 := hLv.no rfl
    subst hx0
    refine LD_is hb8 ?_
    rw [hI.len]
    refine call (FirstCycleLabeling_ok (h.ext hE08) hg (by omega)) ?_
    rintro r13 ok13 w13 ⟨hE13, hA13⟩
    have hE0_13 := hE08.trans hE13
    rcases hA13 with ⟨rfl, hk60, a, q, han, hB, hno2, hR13⟩ | ⟨rfl, _, hno2⟩
    rotate_left
    · exact cond_t rfl ⟨hE0_13, [], .nil _ _, .noFirst hask hno hLv hno2⟩
    refine cond_f rfl ?_
    refine call (min_ok (hI.ext hE0_13) (by omega)) ?_
    rintro mn _ ⟨⟨hmn, hmin⟩, rfl⟩
    refine call (indexC_ok (hI.ext hE0_13) hmn) ?_
    rintro ix _ ⟨⟨j, rfl, hj, hjv⟩, rfl⟩
    intro w16 hE16 _
    have hE0_16 := hE0_13.trans hE16
    rw [wrap_of (by omega) (by omega), show (((ids.length : Nat) : Int) - (j : Int)) = ((ids.length - j : Nat) : Int) by omega]
    have hql : (wlk (q.take ids.length)).length = ids.length := by rw [wlk_len, List.length_take, hB.len]; omega
    have hR16 := hR13.ext hE16
    have hmx : ∀ x ∈ wlk (q.take ids.length), 0 ≤ x ∧ x < 12 := fun x hx => by
      rw [wlk_take] at hx
      exact wlk12 hB hrelE han hn12 x (List.mem_of_mem_take hx)
    generalize hQ : wlk (q.take ids.length) = Q at hR16 hql hmx
    refine slr_drop hR16 (i := ids.length - j) (by omega) rfl fun s1 hs1 => ⟨Ext.refl _, Ext.refl _, ?_⟩
    refine hR16.take (i := ids.length - j) (by omega) rfl fun s2 hs2 => ⟨Ext.refl _, ?_⟩
    refine RUN_lits2 slt_rowsC s1 s2 fun y17 w17 hE17 hO17 => ⟨hE17, ?_⟩
    have hRR : R w17 y17 [Q.drop (ids.length - j), Q.take (ids.length - j)] := by
      refine OwnL.rows (D := fun _ => True) hO17 (by simp) (fun i h1 h2 => ?_) fun b hb => trivial
      match i, h1, h2 with
      | 0, _, _ => exact hs1.ext hE17
      | 1, _, _ => exact hs2.ext hE17
      | i + 2, h1, _ => simp at h1; omega
    refine call (concat_ok hRR (by simp) (by
      intro r hr
      simp only [List.mem_cons, List.not_mem_nil, or_false] at hr
      rcases hr with rfl | rfl
      · rw [List.length_drop]; omega
      · rw [List.length_take]; omega)) ?_
    rintro r18 w18 ⟨hE18, hO18⟩
    have hfl : [Q.drop (ids.length - j), Q.take (ids.length - j)].flatten = rotL Q ids.length j := by simp [rotL]
    rw [hfl] at hO18
    have hE0_18 := (hE0_16.trans hE17).trans hE18
    refine ⟨hE18, Ext.refl _, Ext.refl _, hE0_18, rotL Q ids.length j, ⟨hO18.low (hE0_16.trans hE17).size_le, fun x hx => small12 hmx x (rotL_mem hx), by rw [rotL_len hql]; exact hl0⟩, ?_⟩
    rw [← hQ]
    exact .first hask hno hLv hk60 han hB hno2 ⟨hj, fun x hx => by rw [hjv]; exact hmin x hx⟩

/-! ### The reference -/

theorem sLoopOf_ok {w : World} {s : Sl} {p : WPr} (h : RWk w s p) (hg : WGood p) :
    Calls Tryz.prog F.s_LoopOf #[.agg #[.int .i64 p.labels, s.v]] w (Ret [.at (.int .i64), .at .bool] fun (x : Int) (ok : Bool) w' => Ext w w' ∧ ((ok = true ∧ 0 ≤ x ∧ LoopIs (arcE p.arcs) p.labels.toNat x) ∨ (ok = false ∧ NoLoop p))) := by
  refine C_s_LoopOf ?_
  unfold V_s_LoopOf
  refine NEW_intro fun pp w1 hp1 hs1 hE1 hb1 => LD_is hb1 ?_
  refine call (waGood_ok (h.ext hE1)) ?_
  rintro b w2 ⟨hb, hE2⟩
  have hE02 := hE1.trans hE2
  refine cond_not (fun hf => by rw [hb.2 hg] at hf; cases hf) (fun _ => LD_is (hb1.ext hE2) ?_)
  refine call (waLoop_ok (h.ext hE02) hg) ?_
  rintro x w3 ⟨hE3, hL⟩
  have hE03 := hE02.trans hE3
  refine cond_dec (fun hlt => ⟨hE03, .inr ⟨rfl, ?_⟩⟩) (fun hge => LD_is (hb1.ext (hE2.trans hE3)) ?_)
  · rcases hL with ⟨a, rfl, _⟩ | ⟨_, h2⟩
    · omega
    · exact h2
  · refine call (waLoop_ok (h.ext hE03) hg) ?_
    rintro y w4 ⟨hE4, hL4⟩
    refine ⟨hE03.trans hE4, .inl ⟨rfl, ?_, hL4⟩⟩
    rcases hL4 with ⟨a, rfl, _⟩ | ⟨rfl, h2⟩
    · omega
    · rcases hL with ⟨a, rfl, h3, h4, _⟩ | ⟨rfl, _⟩
      · exact absurd h4 (h2 a h3)
      · omega

theorem rotL_at {q : List Int} {k j i : Nat} (hq : q.length = k) (hj : j < k) (hi : i < k) : at0 (rotL q k j) ((j + i) % k) = at0 q i := by
  have hl : (rotL q k j).length = k := rotL_len hq
  have hm : (j + i) % k < k := Nat.mod_lt _ (by omega)
  rw [at0_get (by rw [hl]; exact hm), at0_get (by omega)]
  unfold rotL
  by_cases h1 : j + i < k
  · rw [List.getElem_append_right (by rw [List.length_drop, Nat.mod_eq_of_lt h1]; omega)]
    simp only [List.getElem_take, List.length_drop]
    congr 1
    rw [Nat.mod_eq_of_lt h1]; omega
  · have e : (j + i) % k = j + i - k := by rw [show j + i = (j + i - k) + k by omega, Nat.add_mod_right, Nat.mod_eq_of_lt (by omega)]; omega
    rw [List.getElem_append_left (by rw [List.length_drop]; omega)]
    simp only [List.getElem_drop]
    congr 1
    rw [e]; omega

/-- What turning keeps: the first i numbers stand where they are to be. -/
def RotP (q : List Int) (k j i : Nat) (L : List Int) : Prop := L.length = k ∧ (∀ x ∈ L, 0 ≤ x ∧ x < 12) ∧ ∀ u, u < i → at0 L ((j + u) % k) = at0 q u
theorem RotP.done {q L : List Int} {k j : Nat} (h : RotP q k j k L) (hq : q.length = k) (hj : j < k) : L = rotL q k j := by
  have e : L = mk0 k (at0 (rotL q k j)) := mk0_ext h.1 fun p hp => by
    obtain ⟨u, hu, e⟩ : ∃ u, u < k ∧ (j + u) % k = p := by
      by_cases h1 : j ≤ p
      · exact ⟨p - j, by omega, by rw [show j + (p - j) = p by omega, Nat.mod_eq_of_lt hp]⟩
      · exact ⟨p + k - j, by omega, by rw [show j + (p + k - j) = p + k by omega, Nat.add_mod_right, Nat.mod_eq_of_lt hp]⟩
    rw [← e, h.2.2 u hu, rotL_at hq hj hu]
  rw [e]
  have := mk0_self (rotL q k j)
  rw [rotL_len hq] at this
  exact this

theorem sSolveCycle_ok {w : World} {s t : Sl} {p : WPr} {ids : List Int} (h : RWk w s p) (hI : R w t ids) (hl0 : ids.length ≤ 1048576) :
    Calls Tryz.prog F.s_SolveCycle #[.agg #[.int .i64 p.labels, s.v], t.v] w (Ret [.at .sl, .at .bool] fun (r : Sl) (ok : Bool) w' => Ext w w' ∧ ∃ out, R w' r out ∧ CyAns p ids out ok) := by
  refine C_s_SolveCycle ?_
  unfold V_s_SolveCycle
  have rnil : ∀ w', R w' ⟨none, 0, 0⟩ ([] : List Int) := fun w' => (OutL.nil 0 w').rep
  refine NEW_intro fun pp w1 hp1 hs1 hE1 hb1 => LD_is hb1 ?_
  refine call (waGood_ok (h.ext hE1)) ?_
  rintro b w2 ⟨hb, hE2⟩
  have hE02 := hE1.trans hE2
  refine cond_not (fun hf => ⟨hE02, [], rnil _, .bad fun hh => by rw [hb.2 hh.good] at hf; cases hf⟩) (fun ht => ?_)
  have hg := hb.1 ht
  have hl := hg.lab
  refine call (cyIds_ok (hI.ext hE02)) ?_
  rintro c _ ⟨hc, rfl⟩
  refine cond_not (fun hf => ⟨hE02, [], rnil _, .bad fun hh => by rw [hc.2 hh.ring] at hf; cases hf⟩) (fun ht3 => ?_)
  have hr := hc.1 ht3
  have hlen := hr.len
  have hask : CyAsk p ids := ⟨hg, hr⟩
  unfold V_s_SolveCycle_k1
  have hb2 := hb1.ext hE2
  refine LD_is hb2 ?_
  refine call (sLoopOf_ok (h.ext hE02) hg) ?_
  rintro x okL w5 ⟨hE5, hL⟩
  have hE05 := hE02.trans hE5
  have hrelE : ∀ x y, arcE p.arcs x y → x < p.labels.toNat ∧ y < p.labels.toNat := fun x y hxy => hg.rel hxy
  have hn12 : p.labels.toNat ≤ 12 := by omega
  rw [hI.len]
  rcases hL with ⟨rfl, hx0, hL⟩ | ⟨rfl, hno⟩
  · obtain ⟨a, rfl, ha, hl1, hl2⟩ : ∃ a : Nat, x = a ∧ a < p.labels.toNat ∧ arcE p.arcs a a ∧ ∀ c, c < a → ¬ arcE p.arcs c c := by
      rcases hL with hL | ⟨rfl, _⟩
      · exact hL
      · omega
    refine cond_t rfl ?_
    refine RUN_make (α := Int) slt_int (d := 0) rfl (by omega) (by unfold maxLen; omega) fun r w6 hE6 hO6 => ?_
    have hlr : r.len = ids.length := by have := hO6.1; rw [List.length_replicate] at this; exact this
    rw [hlr]
    have hE06 := hE05.trans hE6
    refine ⟨IN ids.length fun i w' => Ext w5 w' ∧ ∃ L, OwnL w' w5.heap.size T.t_int r L ∧ L.length = ids.length ∧ (∀ z ∈ L, I64 z) ∧ ∀ u, u < i → at0 L u = (a : Int), MN ids.length, IN_zero ⟨hE6, _, hO6, by simp, (fun z hz => by rw [List.eq_of_mem_replicate hz]; unfold I64; omega), fun u hu => by omega⟩, ?_⟩
    rintro _ w7 ⟨i, rfl, hi, hE7, L, hO7, hLl, hL64, hLa⟩
    intros
    refine cond_dec (fun hlt => ?_) (fun hge => ?_)
    · have hi' : i < ids.length := by omega
      have hil : i < L.length := by omega
      refine IX_own hO7 hil rfl fun q hq => ?_
      refine ST_own hO7 hil hq ((a : Int)) rfl fun w8 hO8 hs8 => ?_
      refine IN_next (by omega) hi' ⟨hs8.ext0 hE7 fun k hk => (hO7.blk k hk).1, _, hO8, by rw [List.length_set]; exact hLl, fun z hz => ?_, fun u hu => ?_⟩
      · rcases List.mem_or_eq_of_mem_set hz with hz | hz
        · exact hL64 z hz
        · rw [hz]; unfold I64; omega
      · rw [at0_set hil]
        by_cases e : i = u
        · rw [if_pos e]
        · rw [if_neg e]; exact hLa u (by omega)
    · have : i = ids.length := by omega
      subst this
      have eL : L = List.replicate ids.length (a : Int) := by
        apply List.ext_getElem
        · rw [List.length_replicate, hLl]
        · intro u h1 h2
          rw [← at0_get h1, hLa u (by omega), List.getElem_replicate]
      rw [eL] at hO7 hL64
      exact ⟨hE05.trans hE7, _, (hO7.rep hL64).any, .loop hask ha hl1 hl2⟩
  refine cond_f rfl ?_
  have hb5 := hb2.ext hE5
  refine LD_is hb5 ?_
  refine call (cyLevels_ok (h.ext hE05)) ?_
  rintro a0 lv ok w9 ⟨hE9, hLv, hhd0⟩
  have hE09 := hE05.trans hE9
  have hb9 := hb5.ext hE9
  refine cond_b (fun hok => ?_) (fun hnok => ?_)
  · subst hok
    intro w10 hE10 _
    have hE0_10 := hE09.trans hE10
    refine LD_is (hb9.ext hE10) ⟨Ext.refl _, ?_⟩
    obtain ⟨a, l, hhd, han, hlv, hl10, hne, ha'⟩ := hLv.few hg
    subst hlv
    have ha0 : a0 = (a : Int) := by have := hhd0 rfl; rw [hhd] at this; exact (Option.some.inj this).symm
    subst ha0
    refine call (cySpaced_ok (hI.ext hE0_10) hr (n := l) (by omega)) ?_
    rintro r11 w11 ⟨hE11, hO11⟩
    have hE0_11 := hE0_10.trans hE11
    have hm := hr.spaced l
    refine ⟨hE11, ?_⟩
    refine call (cyFill_ok (h.ext hE0_11) hg han (hO11.rep (hm.i64 (by omega))).any hm hlen) ?_
    rintro r12 ok12 w12 ⟨hE12, hA12⟩
    refine ⟨hE11.trans hE12, hE11.trans hE12, hE0_11.trans hE12, ?_⟩
    rcases hA12 with ⟨rfl, out, h1, h2, h3⟩ | ⟨rfl, rfl, i, hi, hn⟩
    · exact ⟨out, (h3.rep (small12 h2)).any, .fill hask hno hLv hhd h1⟩
    · exact ⟨[], rnil _, .noFill hask hno hLv hhd hi hn⟩
  · subst hnok
    have hx0 := hLv.no rfl
    subst hx0
    refine LD_is hb9 ?_
    refine call (sFirstCycleLabeling_ok (h.ext hE09) hg (by omega)) ?_
    rintro r13 ok13 w13 ⟨hE13, hA13⟩
    have hE0_13 := hE09.trans hE13
    rcases hA13 with ⟨rfl, hk60, a, q, han, hB, hno2, hR13⟩ | ⟨rfl, _, hno2⟩
    rotate_left
    · exact cond_t rfl ⟨hE0_13, [], rnil _, .noFirst hask hno hLv hno2⟩
    refine cond_f rfl ?_
    have hI13 := hI.ext hE0_13
    refine ⟨fun (st i : Int) w' => w13 = w' ∧ ∃ (j u : Nat), st = j ∧ i = u ∧ u ≤ ids.length ∧ j < ids.length ∧ ∀ v, v < u → at0 ids j ≤ at0 ids v, fun _ i _ => ids.length - i.toNat, ⟨rfl, 0, 0, rfl, rfl, Nat.zero_le _, by omega, fun v hv => by omega⟩, ?_⟩
    rintro _ _ _ ⟨rfl, j, u, rfl, rfl, hu, hj, hall⟩
    intros
    refine cond_dec (fun hlt => ?_) (fun hge => ?_)
    · have hu' : u < ids.length := by omega
      refine hI13.ixI hu' fun q1 _ hc1 => LD_int hc1 ?_
      refine hI13.ixI hj fun q2 _ hc2 => LD_int hc2 ?_
      rw [← at0_get hu', ← at0_get hj, wrap_of (by omega) (by omega)]
      refine cond_dec (fun hl => ⟨⟨rfl, u, u + 1, rfl, by omega, by omega, hu', fun v hv => ?_⟩, by simp only []; omega⟩) (fun hl => ⟨⟨rfl, j, u + 1, rfl, by omega, by omega, hj, fun v hv => ?_⟩, by simp only []; omega⟩)
      · by_cases e : v = u
        · subst e; exact Int.le_refl _
        · have := hall v (by omega); omega
      · by_cases e : v = u
        · subst e; omega
        · exact hall v (by omega)
    have hue : u = ids.length := by omega
    subst hue
    have hmin : MinAt ids j := ⟨hj, fun x hx => by
      obtain ⟨v, hv, rfl⟩ := mem_at0 hx
      exact hall v hv⟩
    have hql : (wlk (q.take ids.length)).length = ids.length := by rw [wlk_len, List.length_take, hB.len]; omega
    have hmx : ∀ x ∈ wlk (q.take ids.length), 0 ≤ x ∧ x < 12 := fun x hx => by
      rw [wlk_take] at hx
      exact wlk12 hB hrelE han hn12 x (List.mem_of_mem_take hx)
    generalize hQ : wlk (q.take ids.length) = Q at hR13 hql hmx
    refine RUN_make (α := Int) slt_int (d := 0) rfl (by omega) (by unfold maxLen; omega) fun o w15 hE15 hO15 => ?_
    rw [hR13.len, hql]
    refine ⟨IN ids.length fun i w' => Ext w13 w' ∧ ∃ L, OwnL w' w13.heap.size T.t_int o L ∧ RotP Q ids.length j i L, MN ids.length, IN_zero ⟨hE15, _, hO15, by simp, (fun x hx => by rw [List.eq_of_mem_replicate hx]; omega), fun u hu => by omega⟩, ?_⟩
    rintro _ w16 ⟨i, rfl, hi, hE16, L, hO16, hP⟩
    intros
    refine cond_dec (fun hlt2 => ?_) (fun hge2 => ?_)
    · have hi' : i < ids.length := by omega
      refine (hR13.ext hE16).ixI (show i < Q.length by omega) fun q1 _ hc1 => LD_int hc1 ⟨by omega, ?_⟩
      rw [wrap_of (by omega) (by omega), show ((j : Int) + (i : Int)) = ((j + i : Nat) : Int) by omega, ← Int.ofNat_tmod]
      have hpl : (j + i) % ids.length < L.length := by rw [hP.1]; exact Nat.mod_lt _ (by omega)
      refine IX_own hO16 hpl rfl fun q2 hq2 => ?_
      refine ST_own hO16 hpl hq2 (Q[i]) rfl fun w17 hO17 hs17 => ?_
      refine IN_next (by omega) hi' ⟨hs17.ext0 hE16 fun k hk => (hO16.blk k hk).1, _, hO17, by rw [List.length_set]; exact hP.1, fun x hx => ?_, fun v hv => ?_⟩
      · rcases List.mem_or_eq_of_mem_set hx with hx | hx
        · exact hP.2.1 x hx
        · rw [hx]; exact hmx _ (List.getElem_mem _)
      · rw [at0_set hpl]
        by_cases e : v = i
        · subst e; rw [if_pos rfl, at0_get (by omega)]
        · rw [if_neg (fun hh => e ?_)]
          · exact hP.2.2 v (by omega)
          · have h1 : (j + i) % ids.length = if j + i < ids.length then j + i else j + i - ids.length := by
              split
              · rename_i h2; exact Nat.mod_eq_of_lt h2
              · rename_i h2; rw [show j + i = (j + i - ids.length) + ids.length by omega, Nat.add_mod_right, Nat.mod_eq_of_lt (by omega)]; omega
            have h3 : (j + v) % ids.length = if j + v < ids.length then j + v else j + v - ids.length := by
              split
              · rename_i h2; exact Nat.mod_eq_of_lt h2
              · rename_i h2; rw [show j + v = (j + v - ids.length) + ids.length by omega, Nat.add_mod_right, Nat.mod_eq_of_lt (by omega)]; omega
            rw [h1, h3] at hh
            split at hh <;> split at hh <;> omega
    · have : i = ids.length := by omega
      subst this
      have e := hP.done hql hj
      have h12 := hP.2.1
      rw [e] at hO16 h12
      refine ⟨hE0_13.trans hE16, rotL Q ids.length j, (hO16.rep (small12 h12)).any, ?_⟩
      rw [← hQ]
      exact .first hask hno hLv hk60 han hB hno2 hmin

end Go.Proofs.YtaeledhbkdakcaaGreatDoor
end

section
/- The walk of the law FnExactSolveCycle. -/
namespace Go.Proofs.YtaeledhbkdakcaaGreatDoor
open Go.GX Go.RowKit
set_option maxRecDepth 100000
set_option maxHeartbeats 800000

theorem toWalk_own {w : World} {s : Sl} {p : WPr} (h : RWk w s p) (hs : SmallM p.arcs) :
    Calls Tryz.prog F.l_toWalkProblem #[.agg #[.int .i64 p.labels, s.v]] w (Ret [.agg [.int .i64, .sl]] fun (x : Int) (z : Sl) w' => x = p.labels ∧ Ext w w' ∧ RWk w' z p ∧ MIntSS w' z w.heap.size w'.heap.size) := by
  refine C_l_toWalkProblem ?_
  unfold V_l_toWalkProblem
  refine NEW_intro fun pa w1 hp1 hs1 hE1 hb1 => NEW_intro fun px w2 hp2 hs2 hE2 hb2 => NEW_intro fun po w3 hp3 hs3 hE3 hb3 => ?_
  have hE23 := hE2.trans hE3
  have hE03 := hE1.trans hE23
  have hz1 := hE1.size_le
  have hz2 := hE2.size_le
  have hz3 := hE3.size_le
  have ha3 := hb1.ext hE23
  have hx3 := hb2.ext hE3
  have hlt1 := hb1.lt
  have hlt2 := hb2.lt
  have hlt3 := hb3.lt
  have hml := hs.1
  refine LD_bi0 ha3 ?_
  refine ST_boxW hb3 (by simp) rfl hE03 (by omega) fun w4 hC4 hE04 hb4 => LD_bs1 (ha3.chg hC4 (by omega)) ?_
  have hz4 := hC4.size
  refine call (toIntSS_own (h.arcs.ext hE04) (by omega) (fun r hr => by have := hs.2 r hr; omega)) ?_
  rintro z w5 ⟨hE5, hO5⟩
  have hz5 := hE5.size_le
  have hE05 := hE04.trans hE5
  refine ST_boxW (hb4.ext hE5) (by simp) rfl hE05 (by omega) fun w6 hC6 hE06 hb6 => LD_is hb6 ?_
  have hz6 := hC6.size
  have hx6 := ((hx3.chg hC4 (by omega)).ext hE5).chg hC6 (by omega)
  refine ST_all hx6 (one2 p.labels z) rfl fun w7 hs7 hz7 hb7 => LD_is hb7 ?_
  have hO7 : Own2 w7 w.heap.size T.t_int T.t_sl_int z p.arcs := by
    obtain ⟨ss, k1, k2, k3⟩ := hO5
    have keepB : ∀ k, w4.heap.size ≤ k → k < w5.heap.size → w7.heap[k]? = w5.heap[k]? := fun k h1 h2 => by
      rw [hs7.block k (by omega) (by intro he; cases he; omega), hC6.block k h2 (by omega)]
    exact ⟨ss, (k1.keep fun k hk => keepB k (k1.blk k hk).1 (k1.blk k hk).2).low (by omega), k2, fun i r l hr hl => ((k3 i r l hr hl).keep fun k hk => keepB k ((k3 i r l hr hl).blk k hk).1 ((k3 i r l hr hl).blk k hk).2).low (by omega)⟩
  exact ⟨rfl, hs7.ext0 hE06 fun k hk => by cases hk; omega, ⟨h.lab, hO7.rep (flat_okII h.arcs)⟩, mintss_of hO7 (by have := hs.1; omega) fun r hr => by have := hs.2 r hr; omega⟩

theorem markWalk_ok {w : World} {s : Sl} {lo hi : Nat} {x : Int} (h : MIntSS w s lo hi) (k : Int) (hk0 : 0 ≤ k) (hk : k ≤ 1125899906842624) :
    Calls Tryz.prog F.l_markWalkProblem #[.agg #[.int .i64 x, s.v], .int .i64 k] w (Ret [.at (.int .i64)] fun (r : Int) w' => (0 ≤ r ∧ r ≤ k + 1099511627776) ∧ Shp w w' ∧ Chg w w' (fun b => lo ≤ b ∧ b < hi)) := by
  refine C_l_markWalkProblem ?_
  unfold V_l_markWalkProblem
  refine NEW_intro fun p w1 hp hs hE hb => LD_bs1 hb ?_
  refine call (markIntSS_ok (h.ext hE) k hk0 (by omega)) ?_
  rintro r w2 ⟨h1, h2, hSh, hC⟩
  exact ⟨⟨h1, h2⟩, (Shp.ext hE).trans hSh, (Chg.of_ext hE).trans hC⟩

theorem fnExactSolveCycle_ok {w : World} (g : GT w) {s t : Sl} {q : WPr} {ids : List Int} (h : RWk w s q) (h1 : R w t ids) :
    Calls Tryz.prog F.l_FnExactSolveCycle #[.agg #[.int .i64 q.labels, s.v], t.v] w (Ret [.at .bool] fun (x : Bool) w' => x = true ∧ Ext w w') := by
  refine C_l_FnExactSolveCycle ?_
  unfold V_l_FnExactSolveCycle
  refine NEW_intro fun p0 u0 hp0 hs0 hA0 hb0 => ?_
  have hE := hA0
  replace h := h.ext hA0
  replace h1 := h1.ext hA0
  replace g := g.ext hA0
  rw [h1.len]
  refine cond_dec (fun _ => ⟨rfl, hE⟩) (fun hl1 => ?_)
  have hm1 : ids.length ≤ 1048576 := by omega
  refine LD_is hb0 ?_
  refine call (szWalk_ok h 1048576 (by omega) (by omega)) ?_
  rintro z0 x0 ⟨hz0, hB0⟩
  replace hE := hE.ext hB0
  replace h := h.ext hB0
  replace h1 := h1.ext hB0
  replace g := g.ext hB0
  replace hb0 := hb0.ext hB0
  refine cond_dec (fun _ => ⟨rfl, hE⟩) (fun hzl0 => ?_)
  have hS := hz0 (by omega)
  refine LD_is hb0 ?_
  refine call (toWalk_ok h hS) ?_
  rintro _ z w1 ⟨rfl, hE1, hR1⟩
  replace hE := hE.ext hE1
  replace h := h.ext hE1
  replace h1 := h1.ext hE1
  replace g := g.ext hE1
  replace hb0 := hb0.ext hE1
  refine call (toIntS_ok h1 hm1) ?_
  rintro t1 w2 ⟨hE2, hO2⟩
  replace hE := hE.ext hE2
  replace h := h.ext hE2
  replace h1 := h1.ext hE2
  replace g := g.ext hE2
  replace hb0 := hb0.ext hE2
  replace hR1 := hR1.ext hE2
  refine call (sSolveCycle_ok hR1 (hO2.rep (flat_ok h1)).any hm1) ?_
  rintro sS okS wA ⟨hE3, L1, hP1, hA1⟩
  replace hE := hE.ext hE3
  replace h := h.ext hE3
  replace h1 := h1.ext hE3
  replace g := g.ext hE3
  replace hb0 := hb0.ext hE3
  have hX := Ext.refl wA
  refine LD_is (hb0.ext hX) ?_
  refine call (toWalk_own (h.ext hX) hS) ?_
  rintro _ zi wi ⟨rfl, hEi, hRi, hMi⟩
  have hli := hEi.size_le
  replace hX := hX.ext hEi
  have hH := Ext.refl wi
  refine NEW_ST (one2 _ _) rfl fun yi vi hqi hFi hc => ?_
  replace hX := hX.ext hFi
  replace hRi := hRi.ext hFi
  replace hMi := hMi.ext hFi
  replace hH := hH.ext hFi
  have hzv := hX.size_le
  refine call (toIntS_ok (h1.ext hX) hm1) ?_
  rintro ti wi2 ⟨hEi2, hOi⟩
  have hzi2 := hEi2.size_le
  replace hX := hX.ext hEi2
  replace hRi := hRi.ext hEi2
  replace hMi := hMi.ext hEi2
  replace hH := hH.ext hEi2
  replace hc := hc.ext hEi2
  have hzH := hH.size_le
  have hM1 := mint_of hOi hm1
  have hRi1 := (hOi.rep (flat_ok h1)).any
  have hH1 := Ext.refl wi2
  refine LD_is hc ?_
  refine call (SolveCycle_ok (g.ext hX) hRi hRi1 hm1) ?_
  rintro sI okI wE ⟨hCE, L2, hO, hA2⟩
  replace hX := hX.ext hCE
  replace hRi := hRi.ext hCE
  replace hMi := hMi.ext hCE
  replace hc := hc.ext hCE
  replace hM1 := hM1.ext hCE
  replace hRi1 := hRi1.ext hCE
  replace hH1 := hH1.ext hCE
  obtain ⟨rfl, rfl⟩ := CyAns.eq hA1 hA2
  have hHE := Ext.refl wE
  refine call (eqIntS_ok hO.rep (hP1.ext hX)) ?_
  rintro _ we1 ⟨rfl, hK⟩
  replace hX := hX.ext hK
  replace hRi := hRi.ext hK
  replace hMi := hMi.ext hK
  replace hc := hc.ext hK
  replace hM1 := hM1.ext hK
  replace hRi1 := hRi1.ext hK
  replace hH1 := hH1.ext hK
  replace hO := hO.ext hK
  replace hHE := hHE.ext hK
  refine cond_f (by simp) ?_
  refine cond_f (by simp) ?_
  unfold V_l_FnExactSolveCycle_k3
  intro m0 hG0 _
  replace hX := hX.ext hG0
  replace hRi := hRi.ext hG0
  replace hMi := hMi.ext hG0
  replace hc := hc.ext hG0
  replace hM1 := hM1.ext hG0
  replace hRi1 := hRi1.ext hG0
  replace hH1 := hH1.ext hG0
  replace hO := hO.ext hG0
  replace hHE := hHE.ext hG0
  refine LD_is hc (LD_is (hb0.ext hX) ⟨Ext.refl _, ?_⟩)
  refine call (toWalk_ok (h.ext hX) hS) ?_
  rintro _ ze we0' ⟨rfl, hHe0, hNe0⟩
  replace hX := hX.ext hHe0
  replace hRi := hRi.ext hHe0
  replace hMi := hMi.ext hHe0
  replace hc := hc.ext hHe0
  replace hM1 := hM1.ext hHe0
  replace hRi1 := hRi1.ext hHe0
  replace hH1 := hH1.ext hHe0
  replace hO := hO.ext hHe0
  replace hHE := hHE.ext hHe0
  refine ⟨hHe0, call (eqWalk_ok hRi hNe0) ?_⟩
  rintro _ wf0 ⟨rfl, hK0⟩
  replace hX := hX.ext hK0
  replace hRi := hRi.ext hK0
  replace hMi := hMi.ext hK0
  replace hc := hc.ext hK0
  replace hM1 := hM1.ext hK0
  replace hRi1 := hRi1.ext hK0
  replace hH1 := hH1.ext hK0
  replace hO := hO.ext hK0
  replace hHE := hHE.ext hK0
  refine ⟨hHe0.trans hK0, cond_f (by simp) ?_⟩
  refine call (toIntS_ok (h1.ext hX) hm1) ?_
  rintro se1 we1' ⟨hHe1, hOe1⟩
  replace hX := hX.ext hHe1
  replace hRi := hRi.ext hHe1
  replace hMi := hMi.ext hHe1
  replace hc := hc.ext hHe1
  replace hM1 := hM1.ext hHe1
  replace hRi1 := hRi1.ext hHe1
  replace hH1 := hH1.ext hHe1
  replace hO := hO.ext hHe1
  replace hHE := hHE.ext hHe1
  refine call (eqIntS_ok hRi1 (hOe1.rep (flat_ok h1)).any) ?_
  rintro _ wf1 ⟨rfl, hK1⟩
  replace hX := hX.ext hK1
  replace hRi := hRi.ext hK1
  replace hMi := hMi.ext hK1
  replace hc := hc.ext hK1
  replace hM1 := hM1.ext hK1
  replace hRi1 := hRi1.ext hK1
  replace hH1 := hH1.ext hK1
  replace hO := hO.ext hK1
  replace hHE := hHE.ext hK1
  refine cond_f (by simp) ?_
  refine LD_is hc ?_
  have hzHE := hHE.size_le
  have hzH1 := hH1.size_le
  refine call (markWalk_ok hMi 1 (by omega) (by omega)) ?_
  rintro k0 wm0 ⟨hk0, hSh, hCh⟩
  have hzk0 := hCh.size
  replace hX := hCh.extR hX (by omega)
  replace hO := hO.chgR hCh (by omega)
  replace hM1 := hM1.shp hSh
  refine call (markIntS_wr hM1.wr _ (by omega) (by omega) hM1.len) ?_
  rintro k1 wm1 ⟨hk1, hSh, hCh⟩
  have hml1 := hM1.len
  replace hCh := hCh.mono hM1.blk
  replace hX := hCh.extR hX (by omega)
  replace hO := hO.chgR hCh (by omega)
  refine cond_df (by omega) ?_
  refine call (eqIntS_ok hO.rep (hP1.ext hX)) ?_
  rintro _ we2 ⟨rfl, hK⟩
  replace hX := hX.ext hK
  replace hO := hO.ext hK
  refine cond_f (by simp) ?_
  refine cond_f (by simp) ?_
  unfold V_l_FnExactSolveCycle_k7
  have hl0 := hO.small
  refine call (markIntS_out hO 1 (by omega) (by omega)) ?_
  rintro mk0 wg0 ⟨hmk0, hMk0, hSt⟩
  have hzg := hSt.size
  replace hX := hSt.extB hX (by omega)
  refine call (heldIntS_ok 1 hMk0 (by omega) (by omega) hl0) ?_
  rintro _ _ ⟨rfl, rfl⟩
  refine cond_df (by omega) ?_
  refine cond_f (by simp [hmk0]) ?_
  refine LD_is (hb0.ext hX) ?_
  refine call (toWalk_ok (h.ext hX) hS) ?_
  rintro _ zj wj ⟨rfl, hEj, hNj⟩
  replace hX := hX.ext hEj
  replace hMk0 := hMk0.ext hEj
  refine call (toIntS_ok (h1.ext hX) hm1) ?_
  rintro sj1 wj1 ⟨hEj1, hOj1⟩
  replace hX := hX.ext hEj1
  replace hMk0 := hMk0.ext hEj1
  replace hNj := hNj.ext hEj1
  have hRj1 := (hOj1.rep (flat_ok h1)).any
  refine call (SolveCycle_ok (g.ext hX) hNj hRj1 hm1) ?_
  rintro sL okL wL ⟨hCL, L3, hGL, hA3⟩
  replace hX := hX.ext hCL
  replace hMk0 := hMk0.ext hCL
  obtain ⟨rfl, rfl⟩ := CyAns.eq hA1 hA3
  refine call (eqIntS_ok hGL.rep (hP1.ext hX)) ?_
  rintro _ we3 ⟨rfl, hK4⟩
  replace hX := hX.ext hK4
  replace hMk0 := hMk0.ext hK4
  refine cond_f (by simp) ?_
  refine cond_f (by simp) ?_
  refine call (heldIntS_ok 1 hMk0 (by omega) (by omega) hl0) ?_
  rintro _ _ ⟨rfl, rfl⟩
  refine cond_df (by omega) ?_
  refine cond_f (by simp [hmk0]) ?_
  exact ⟨rfl, hE.trans hX⟩

end Go.Proofs.YtaeledhbkdakcaaGreatDoor
end

section
/- Facts of this seat's program that every claim's last step asks for, each computed once (together they need more memory than a text may use). -/
namespace Go.Proofs.YtaeledhbkdakcaaGreatDoor


theorem door_enters : Tryz.pinned.checked.prog.mayEnter = true := by kernel_rfl

theorem door_lifts : Tryz.pinned.checked.prog.liftsFinal = false := by kernel_rfl

theorem door_heard : Tryz.pinned.checked.prog.stopsHeard = true := by kernel_rfl

theorem door_laid : laidOutB Tryz.pinned.checked.prog = true := by kernel_rfl

theorem door_maps : mapsRowed Tryz.pinned.checked.prog = true := by kernel_rfl

end Go.Proofs.YtaeledhbkdakcaaGreatDoor
end

section
/- The frame of a card: a contract at a world that has its shape and the listed variables. No program is named here. -/
namespace Go
open Go.ChangeShapes
variable {H : Type} {enc : TypeId × Value → H}

theorem handed_tied {a : Assume} {C : Checked} {os : Os} {f : FuncId} {fn : Func} {s : ChangeSpec} {conds : List PathCond} {apart fresh handsOn again : Bool} {X : World → Array Value → Prop}
    (hX : ∀ (w w' : World) (args : Array Value), w.heap = w'.heap → X w args → X w' args)
    (own : ownKnob C.prog.godebug = none) (started : os.Started) (noInit : C.prog.inits.idxOf? f = none) (hfn : C.prog.funcs[f]? = some fn)
    (witness : ∃ (w : World) (tape : Tape) (i : Input), w.os = os ∧ (w.forCall tape i).Shaped C.prog ∧ i.vars = [] ∧ Input.okWide C.prog (w.forCall tape i) .any w.heap.size f i ∧
      ((s.pre enc C.prog fn conds apart (w.forCall tape i).memory i.args ∧ X (w.forCall tape i).memory i.args) ∧ sizedMet enc C.prog fn (OpenSpec.ofChange s) apart (w.forCall tape i).memory i.args) ∧ a.holds C.prog (lone (Frame.enter C.prog f i.args .normal) [] (w.forCall tape i)))
    (contract : ∀ (W : World) (base : Nat) (args : Array Value) (ds gs : List (DataW H)) (before : List MemPlace),
      (∀ (j : Nat) t v, fn.params[j]? = some t → args[j]? = some v → Value.okWide C.prog W .any base t v) →
      DataW.Whole enc C.prog fn.params.toList s.vars apart W args.toList ds gs before →
      conds.all (PathCond.test C.prog ⟨fn.params.toList, ds, s.plain.varTypes C.prog, gs⟩) = true →
      (DataW.weightsEach C.prog (fn.params.toList ++ s.plain.varTypes C.prog) (ds ++ gs)).all (· ≤ reachBytes) = true → X W args → W.ShapedOpen C.prog →
      a.holds C.prog (lone (Frame.enter C.prog f args .normal) [] W) →
      Calls C.prog f args W fun e W' => ∃ v, e = .returned v ∧ s.post enc C.prog fn apart fresh handsOn again W args v W') :
    ReturnsInHanded a C os f .any (fun w args => (s.pre enc C.prog fn conds apart w args ∧ X w args) ∧ sizedMet enc C.prog fn (OpenSpec.ofChange s) apart w args) (s.post enc C.prog fn apart fresh handsOn again) := by
  refine returnsInHanded_of_calls own started noInit witness ?_
  intro w tape i _ hsh _ hok hpre hholds
  obtain ⟨_, _, _, fn', hfn', _, _, _, _, hval⟩ := hok
  have e : fn' = fn := Option.some.inj (hfn'.symm.trans hfn)
  subst e
  obtain ⟨⟨⟨ds, gs, before, hw, hc⟩, hx⟩, hz⟩ := hpre
  have hw' := DataW.Whole.of_heap (w' := w.forCall tape i) (by rfl) hw
  refine (contract (w.forCall tape i) w.heap.size i.args ds gs before hval hw' hc (hz.weights hw) (hX _ _ _ (by rfl) hx) hsh hholds).mono fun e W' ⟨v, he, hp⟩ => ?_
  subst he
  exact ChangeSpec.post_blind hp

/-- Is a variable a table of numbers of one kind? -/
def tabOkB (P : Program) (name : String) (k : IntKind) (n : Nat) : Bool :=
  match P.globalNamed name with
  | some g => match (P.globals[g]?).map (·.type) with
    | some t => match P.underlying t with
      | some (.array m e) => Nat.beq m n && (match P.underlying e with | some (.int k') => decide (k' = k) | _ => false) && Nat.beq (P.cellsOf e) 1 && Nat.beq (P.cellsOf t) n
      | _ => false
    | none => false
  | none => false

theorem tabIs_of_laid {P : Program} {W : World} {name : String} {k : IntKind} {zs : List Int} {n : Nat} {d : DataW Unit} {rest : List (String × DataW Unit)} (hb : tabOkB P name k n = true) (hd : d = Lib.tabData k zs)
    (h : laidMet P ((name, d) :: rest) W) : Lib.TabIs P W name k zs := by
  subst hd
  unfold tabOkB at hb
  split at hb
  · rename_i g hg
    split at hb
    · rename_i t ht
      split at hb
      · rename_i m e hu
        simp only [Bool.and_eq_true] at hb
        obtain ⟨⟨⟨h1, h2⟩, h3⟩, h4⟩ := hb
        have e1 := Nat.eq_of_beq_eq_true h1
        have e3 := Nat.eq_of_beq_eq_true h3
        have e4 := Nat.eq_of_beq_eq_true h4
        subst e1
        split at h2
        · rename_i k' hk
          have := of_decide_eq_true h2
          subst this
          exact Lib.tabIs_of_head hg ht hu hk e3 e4 h
        · cases h2
      · cases hb
    · cases hb
  · cases hb

end Go
end
