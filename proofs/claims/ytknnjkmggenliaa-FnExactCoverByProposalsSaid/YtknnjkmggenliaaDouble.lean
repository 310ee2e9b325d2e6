/- The double cover of a network, both sides. -/
import Derived.Test.YtknnjkmggenliaaGood
import Derived.Test.YtknnjkmggenliaaRowsD
import Derived.Test.YtknnjkmggenliaaWrite
import Derived.Test.YtknnjkmggenliaaConcat
import Derived.Test.YtknnjkmggenliaaEdges
namespace Go.Proofs.Ytknnjkmggenliaa
open Go.GX Go.RowKit
set_option maxRecDepth 100000

/-! ### What is computed -/

abbrev Pt := Int × Int
def upBy (k : Nat) (e : Pt) : Pt := (e.1 + (k : Int), e.2)

/-- The rows with functions applied, as far as they are made: all of those before v, of row v the first i. -/
def partOf (f : Pt → Pt) (E : Ends) (v i u : Nat) : List Pt := if u < v then (rowOf E u).map f else if u = v then ((rowOf E u).take i).map f else []
def halfOf (f : Pt → Pt) (E : Ends) (v i : Nat) : Ends := (List.range E.length).map (partOf f E v i)
def dblTo (E : Ends) (v i : Nat) : Ends := halfOf (upBy E.length) E v i ++ halfOf id E v i
def dblEnds (E : Ends) : Ends := dblTo E E.length 0
def dbl (n : Net) : Net := ⟨dblEnds n.ends, [], n.inputs ++ n.inputs⟩

theorem halfOf_len (f : Pt → Pt) (E : Ends) (v i : Nat) : (halfOf f E v i).length = E.length := by simp [halfOf]
theorem halfOf_get (f : Pt → Pt) (E : Ends) (v i : Nat) {u : Nat} (hu : u < (halfOf f E v i).length) : (halfOf f E v i)[u] = partOf f E v i u := by simp [halfOf]
theorem dblTo_len (E : Ends) (v i : Nat) : (dblTo E v i).length = 2 * E.length := by simp [dblTo, halfOf_len]; omega

theorem halfOf_step (f : Pt → Pt) (E : Ends) {v i : Nat} (hv : v < E.length) (hi : i < E[v].length) :
    (halfOf f E v i)[v]? = some ((E[v].take i).map f) ∧ (halfOf f E v i).set v ((E[v].take i).map f ++ [f E[v][i]]) = halfOf f E v (i + 1) := by
  constructor
  · rw [List.getElem?_eq_getElem (by rw [halfOf_len]; exact hv), halfOf_get]; simp [partOf, rowOf_get hv]
  · apply List.ext_getElem
    · simp [halfOf_len]
    · intro u h1 h2
      rw [halfOf_get]
      rw [List.getElem_set]
      split
      · rename_i h; subst h
        simp only [partOf, Nat.lt_irrefl, if_false, if_true]
        rw [rowOf_get hv, map_take_succ hi]
      · rename_i h
        rw [halfOf_get]
        unfold partOf
        split
        · rfl
        · rw [if_neg (fun e => h e.symm), if_neg (fun e => h e.symm)]

theorem halfOf_row (f : Pt → Pt) (E : Ends) {v : Nat} (hv : v < E.length) : halfOf f E v E[v].length = halfOf f E (v + 1) 0 := by
  apply List.ext_getElem
  · simp [halfOf_len]
  · intro u h1 h2
    rw [halfOf_get, halfOf_get]
    unfold partOf
    by_cases h : u < v
    · rw [if_pos h, if_pos (by omega)]
    · by_cases h3 : u = v
      · subst h3
        rw [if_neg (by omega), if_pos rfl, if_pos (by omega), rowOf_get hv, List.take_length]
      · rw [if_neg h, if_neg h3, if_neg (by omega)]
        split
        · simp
        · rfl

theorem dblTo_row (E : Ends) {v : Nat} (hv : v < E.length) : dblTo E v E[v].length = dblTo E (v + 1) 0 := by unfold dblTo; rw [halfOf_row _ _ hv, halfOf_row _ _ hv]

theorem dblTo_zero (E : Ends) : dblTo E 0 0 = List.replicate (2 * E.length) [] := by
  have h1 : ∀ f, halfOf f E 0 0 = List.replicate E.length [] := by
    intro f
    apply List.ext_getElem
    · simp [halfOf_len]
    · intro u h1 h2
      rw [halfOf_get]
      simp [partOf]
  unfold dblTo
  rw [h1, h1, List.replicate_append_replicate]
  congr 1; omega

theorem dblEnds_eq (E : Ends) : dblEnds E = E.map (fun r => r.map (upBy E.length)) ++ E := by
  have h1 : ∀ f, halfOf f E E.length 0 = E.map (fun r => r.map f) := by
    intro f
    apply List.ext_getElem
    · simp [halfOf_len]
    · intro u h1 h2
      rw [halfOf_get]
      have hu : u < E.length := by simpa using h2
      simp [partOf, hu, rowOf_get hu]
  unfold dblEnds dblTo
  rw [h1, h1]
  simp

/-- The two rows that one port of the network adds to. -/
theorem dblTo_step (E : Ends) {v i : Nat} (hv : v < E.length) (hi : i < E[v].length) :
    (dblTo E v i)[v]? = some ((E[v].take i).map (upBy E.length)) ∧ (∀ X, ((dblTo E v i).set v X)[v + E.length]? = some (E[v].take i)) ∧
      ((dblTo E v i).set v ((E[v].take i).map (upBy E.length) ++ [upBy E.length E[v][i]])).set (v + E.length) (E[v].take i ++ [E[v][i]]) = dblTo E v (i + 1) := by
  obtain ⟨a1, a2⟩ := halfOf_step (upBy E.length) E hv hi
  obtain ⟨b1, b2⟩ := halfOf_step id E hv hi
  have lA : (halfOf (upBy E.length) E v i).length = E.length := halfOf_len _ _ _ _
  have lA' : (halfOf (upBy E.length) E v (i + 1)).length = E.length := halfOf_len _ _ _ _
  have lB : (halfOf id E v i).length = E.length := halfOf_len _ _ _ _
  unfold dblTo
  generalize halfOf (upBy E.length) E v i = A at *
  generalize halfOf id E v i = B at *
  refine ⟨?_, fun X => ?_, ?_⟩
  · rw [List.getElem?_append_left (by omega), a1]
  · rw [List.set_append_left _ _ (by omega), List.getElem?_append_right (by rw [List.length_set]; omega), List.length_set, lA, Nat.add_sub_cancel, b1, List.map_id]
  · rw [List.set_append_left _ _ (by omega), a2, List.set_append_right _ _ (by omega), lA', Nat.add_sub_cancel]
    rw [List.map_id] at b2
    have : E[v][i] = id E[v][i] := rfl
    rw [this, b2]

theorem dblTo_ok {n : Net} (hg : Good n) {v i : Nat} : ∀ r ∈ dblTo n.ends v i, r.length ≤ 6 ∧ ∀ x ∈ r, I64 x.1 ∧ I64 x.2 := by
  have h40 := hg.size.2
  have hrow : ∀ u, (rowOf n.ends u).length ≤ 6 ∧ ∀ x ∈ rowOf n.ends u, 0 ≤ x.1 ∧ x.1 ≤ 40 ∧ 0 ≤ x.2 ∧ x.2 ≤ 40 := fun u => by
    by_cases hu : u < n.ends.length
    · rw [rowOf_get hu]
      refine ⟨hg.deg hu, fun x hx => ?_⟩
      obtain ⟨j, hj, rfl⟩ := List.mem_iff_getElem.1 hx
      obtain ⟨a, b, hab, ha, hb⟩ := hg.far hu hj
      obtain ⟨_, hb2, _⟩ := port_some hb
      have := hg.deg ha
      rw [hab]; simp only; omega
    · have : rowOf n.ends u = [] := by simp [rowOf, hu]
      rw [this]; simp
  have hpart : ∀ (f : Pt → Pt), (∀ x : Pt, 0 ≤ x.1 ∧ x.1 ≤ 40 ∧ 0 ≤ x.2 ∧ x.2 ≤ 40 → I64 (f x).1 ∧ I64 (f x).2) → ∀ u, (partOf f n.ends v i u).length ≤ 6 ∧ ∀ x ∈ partOf f n.ends v i u, I64 x.1 ∧ I64 x.2 := fun f hf u => by
    obtain ⟨h1, h2⟩ := hrow u
    unfold partOf
    split
    · refine ⟨by simpa using h1, fun x hx => ?_⟩
      obtain ⟨y, hy, rfl⟩ := List.mem_map.1 hx
      exact hf y (h2 y hy)
    · split
      · refine ⟨by simp; omega, fun x hx => ?_⟩
        obtain ⟨y, hy, rfl⟩ := List.mem_map.1 hx
        exact hf y (h2 y (List.mem_of_mem_take hy))
      · simp
  intro r hr
  unfold dblTo halfOf at hr
  rcases List.mem_append.1 hr with h | h
  · obtain ⟨u, _, rfl⟩ := List.mem_map.1 h
    exact hpart _ (fun x hx => by unfold upBy I64; simp only; omega) u
  · obtain ⟨u, _, rfl⟩ := List.mem_map.1 h
    exact hpart _ (fun x hx => by unfold I64; simp only [id]; omega) u

/-! ### One more end in a row -/

theorem snocRow {w : World} {base : Nat} {s : Sl} {L : Ends} {ss : List Sl} (h : RowsD w base T.t_i_End T.t_sl_i_End s L ss) (hbase : base ≤ w.heap.size) {v : Nat} {l : List (Int × Int)} (hl : L[v]? = some l) {r : Sl} (hr : ss[v]? = some r) (hlen : l.length ≤ 100) {x y : Int} (hx : I64 x ∧ I64 y) {K : World → Prop}
    (hk : ∀ w' r', RowsD w' base T.t_i_End T.t_sl_i_End s (L.set v (l ++ [(x, y)])) (ss.set v r') → Chg w w' (fun b => oB r b ∨ oB s b) → K w') :
    RUN Try.prog (.at .sl) (Instr.buildSlice T.t_sl_i_End 1 #[(0, .agg #[.int .i64 x, .int .i64 y])]) w fun y1 w1 => Chg w w1 (oB r) ∧ (RUN Try.prog (.at .sl) (bsem .append #[T.t_sl_i_End, T.t_sl_i_End] T.t_sl_i_End #[r.v, y1.v]) w1 fun r' w2 => Chg w w2 (oB r) ∧ (IX s (v : Int) 1 fun p => GX.ST p 0 [r'.v] w2 K)) := by
  refine RUN_lit1 (α := Int × Int) slt_end (x, y) rfl (by decide) fun y1 w1 hE1 hO1 => ⟨.of_ext hE1, ?_⟩
  have h1 := h.ext hE1
  have hv : v < L.length := (List.getElem?_eq_some_iff.1 hl).1
  have hO := h1.row v r l hr hl
  refine RUN_appendF (α := Int × Int) slt_end hO (Nat.le_trans hbase hE1.size_le) (hO1.rep (by intro z hz; simp at hz; subst hz; exact hx)).any (by simp; omega) (by simp [maxLen]; omega) fun r' w2 hO2 hs2 hn2 => ?_
  have hc2 : Chg w w2 (oB r) := (Chg.of_ext hE1).trans (.of_step hs2 fun k hk => hk)
  refine ⟨hc2, ?_⟩
  have hR2 : OwnL w2 base T.t_sl_i_End s ss := h1.own.keep fun k hk => hs2.block k (h1.own.blk k hk).2 fun he => h1.block_ne (by decide) hr he.symm hk
  refine IX_own hR2 (by rw [h.len]; exact hv) rfl fun p hp => ?_
  exact h1.put (by decide) hv hr hO2 hs2 hn2 hp fun w3 hR3 hs3 => hk w3 r' hR3 ((hc2.mono fun _ => .inl).trans (.of_step hs3 fun k hk => .inr hk))

/-! ### Networks of the call's own memory in a variable -/

theorem neEmpty_ok {k : Nat} (hk : k ≤ 1000) (w : World) :
    Calls Try.prog F.s_neEmpty #[.int .i64 k] w (Ret [.agg [.sl, .sl, .sl]] fun (x y z : Sl) w' => Ext w w' ∧ OwnL w' w.heap.size T.t_sl_i_End x (List.replicate k (⟨none, 0, 0⟩ : Sl)) ∧ y = ⟨none, 0, 0⟩ ∧ OwnL w' w.heap.size T.t_int z (List.replicate k (0 : Int))) := by
  refine C_s_neEmpty ?_
  unfold V_s_neEmpty
  refine NEW_intro fun p w1 hp hs hE hb => ?_
  intro w2 hE2 _
  have hz1 := hE.size_le
  have hz2 := hE2.size_le
  replace hE := hE.ext hE2
  replace hb := hb.ext hE2
  refine ⟨fun b => b = p.block, ?_⟩
  have hA := Ext.refl w2
  refine ⟨?_, ?_⟩
  · skip
    have hzM := hA.size_le
    refine RUN_make (α := Sl) slt_ends (d := ⟨none, 0, 0⟩) rfl (by omega) (by unfold maxLen; omega) fun s wM hEM hOM => ⟨.of_ext (hA.trans hEM), ?_⟩
    replace hOM := hOM.low (base' := w.heap.size) (by omega)
    replace hA := hA.ext hEM
    replace hE := hE.ext hEM
    replace hb := hb.ext hEM
    have hzI := hA.size_le
    refine RUN_make (α := Int) slt_int (d := 0) rfl (by omega) (by unfold maxLen; omega) fun c wI hEI hOI => ⟨.of_ext (hA.trans hEI), ?_⟩
    replace hOI := hOI.low (base' := w.heap.size) (by omega)
    replace hA := hA.ext hEI
    replace hE := hE.ext hEI
    replace hb := hb.ext hEI
    replace hOM := hOM.ext hEI
    refine ⟨.of_ext hA, ?_⟩
    refine ST_all hb (by intro v hv; simp at hv; rcases hv with rfl | rfl | rfl <;> rfl) rfl fun w5 hs5 _ hb5 => ⟨(Chg.of_ext hA).trans (.of_step hs5 fun k hk => by cases hk; rfl), ?_⟩
    refine LD_box3 hb5 ⟨hs5.ext0 hE fun k hk => by cases hk; omega, hOM.stepB hb (by decide) hs5, rfl, hOI.stepB hb (by decide) hs5⟩
  · skip
    have hzI := hA.size_le
    refine RUN_make (α := Int) slt_int (d := 0) rfl (by omega) (by unfold maxLen; omega) fun c wI hEI hOI => ⟨.of_ext (hA.trans hEI), ?_⟩
    replace hOI := hOI.low (base' := w.heap.size) (by omega)
    replace hA := hA.ext hEI
    replace hE := hE.ext hEI
    replace hb := hb.ext hEI
    have hzM := hA.size_le
    refine RUN_make (α := Sl) slt_ends (d := ⟨none, 0, 0⟩) rfl (by omega) (by unfold maxLen; omega) fun s wM hEM hOM => ⟨.of_ext (hA.trans hEM), ?_⟩
    replace hOM := hOM.low (base' := w.heap.size) (by omega)
    replace hA := hA.ext hEM
    replace hE := hE.ext hEM
    replace hb := hb.ext hEM
    replace hOI := hOI.ext hEM
    refine ⟨.of_ext hA, ?_⟩
    refine ST_all hb (by intro v hv; simp at hv; rcases hv with rfl | rfl | rfl <;> rfl) rfl fun w5 hs5 _ hb5 => ⟨(Chg.of_ext hA).trans (.of_step hs5 fun k hk => by cases hk; rfl), ?_⟩
    refine LD_box3 hb5 ⟨hs5.ext0 hE fun k hk => by cases hk; omega, hOM.stepB hb (by decide) hs5, rfl, hOI.stepB hb (by decide) hs5⟩

theorem own_apart {α β : Type} [Flat α] [Flat β] {w : World} {base base' : Nat} {e e' : TypeId} {s s' : Sl} {l : List α} {l' : List β} (h : OwnL w base e s l) (h' : OwnL w base' e' s' l') (hne : e ≠ e') : ∀ b, s.v.ownBlock = some b → ¬ oB s' b := fun b hb hb' => by
  obtain ⟨c1, e1⟩ := h.type hb
  obtain ⟨c2, e2⟩ := h'.type hb'
  rw [e1] at e2
  exact hne (Obj.cells.inj (Option.some.inj e2)).2.1

theorem rows_blank {w : World} {base k : Nat} {s : Sl} (h : OwnL w base T.t_sl_i_End s (List.replicate k (⟨none, 0, 0⟩ : Sl))) : RowsD w base T.t_i_End T.t_sl_i_End s (List.replicate k ([] : List (Int × Int))) (List.replicate k ⟨none, 0, 0⟩) :=
  ⟨h, by simp, fun i r l hr hl => by
    rw [List.eq_of_mem_replicate (List.mem_of_getElem? hr), List.eq_of_mem_replicate (List.mem_of_getElem? hl)]; exact OwnL.nil _ _ _, fun i j r q hr _ _ k hk => by
    rw [List.eq_of_mem_replicate (List.mem_of_getElem? hr)] at hk; cases hk⟩

/-- What is known while the double cover is built, in the variable px. -/
structure Bld (w : World) (base : Nat) (px : Addr) (x z : Sl) (E : Ends) (v i : Nat) (Z : List Int) : Prop where
  box : Box w px T.t_i_Network [x.v, (⟨none, 0, 0⟩ : Sl).v, z.v]
  rows : ∃ ss, RowsD w base T.t_i_End T.t_sl_i_End x (dblTo E v i) ss
  ins : OwnL w base T.t_int z Z

theorem Bld.ext {w w' : World} {base : Nat} {px : Addr} {x z : Sl} {E : Ends} {v i : Nat} {Z : List Int} (h : Bld w base px x z E v i Z) (hE : Ext w w') : Bld w' base px x z E v i Z := by
  obtain ⟨h1, ⟨ss, h2⟩, h3⟩ := h
  exact ⟨h1.ext hE, ⟨ss, h2.ext hE⟩, h3.ext hE⟩

/-- One port of the network: two rows grow. -/
theorem bld_port {n : Net} (hg : Good n) {w w0 : World} {px : Addr} {x z : Sl} {kk : Nat} {v i : Nat} {Z : List Int} (hB : Bld w w0.heap.size px x z n.ends v i Z) (hE0 : Ext w0 w) (hv : v < n.ends.length) (hi : i < n.ends[v].length) (hkk : kk = n.ends.length) {e0 e1 : Int} (he : n.ends[v][i] = (e0, e1)) {K : World → Prop}
    (hk : ∀ w', Bld w' w0.heap.size px x z n.ends v (i + 1) Z → Ext w0 w' → K w') :
    NEW T.t_i_End #[.int .i64 0, .int .i64 0] w fun (px9 : Addr) w55 =>
    GX.ST px9 0 [.int .i64 e0, .int .i64 e1] w55 fun w56 =>
    ∀ w57, Ext w56 w57 → w57.heap = w56.heap → ∃ (D57 : Nat → Prop),
    ¬ D57 (px.add 0).block ∧ (
    LD [.sl] (px.add 0) w57 fun (x42 : Sl) =>
    ¬ D57 (px.add 0).block ∧ (
    LD [.sl] (px.add 0) w57 fun (x45 : Sl) =>
    IX x45 (v : Int) 1 fun (px47 : Addr) =>
    ¬ D57 px47.block ∧ (
    LD [.sl] px47 w57 fun (x48 : Sl) =>
    ¬ D57 (px9.add 0).block ∧ (
    LD [.int .i64] (px9.add 0) w57 fun (x50 : Int) =>
    Chg w57 w57 D57 ∧ (
    LD [.int .i64] (px9.add 1) w57 fun (x54 : Int) =>
    Chg w57 w57 D57 ∧ (
    Chg w57 w57 D57 ∧ (
    RUN Try.prog (.at .sl) (Instr.buildSlice T.t_sl_i_End 1 #[(0, .agg #[.int .i64 (IntKind.i64.wrap (x50 + (kk : Int))), .int .i64 x54])]) w57 fun (x56 : Sl) w58 =>
    Chg w57 w58 D57 ∧ (
    RUN Try.prog (.at .sl) (bsem .append #[T.t_sl_i_End, T.t_sl_i_End] T.t_sl_i_End #[x48.v, x56.v]) w58 fun (x57 : Sl) w59 =>
    Chg w57 w59 D57 ∧ (
    IX x42 (v : Int) 1 fun (px58 : Addr) =>
    GX.ST px58 0 [x57.v] w59 fun w60 =>
    ∀ w61, Ext w60 w61 → w61.heap = w60.heap → ∃ (D61 : Nat → Prop),
    ¬ D61 (px.add 0).block ∧ (
    LD [.sl] (px.add 0) w61 fun (x60 : Sl) =>
    ¬ D61 (px.add 0).block ∧ (
    LD [.sl] (px.add 0) w61 fun (x65 : Sl) =>
    IX x65 (IntKind.i64.wrap ((v : Int) + (kk : Int))) 1 fun (px69 : Addr) =>
    ¬ D61 px69.block ∧ (
    LD [.sl] px69 w61 fun (x70 : Sl) =>
    LD [.int .i64, .int .i64] px9 w61 fun (x71_0 : Int) (x71_1 : Int) =>
    Chg w61 w61 D61 ∧ (
    RUN Try.prog (.at .sl) (Instr.buildSlice T.t_sl_i_End 1 #[(0, .agg #[.int .i64 x71_0, .int .i64 x71_1])]) w61 fun (x72 : Sl) w62 =>
    Chg w61 w62 D61 ∧ (
    RUN Try.prog (.at .sl) (bsem .append #[T.t_sl_i_End, T.t_sl_i_End] T.t_sl_i_End #[x70.v, x72.v]) w62 fun (x73 : Sl) w63 =>
    Chg w61 w63 D61 ∧ (
    IX x60 (IntKind.i64.wrap ((v : Int) + (kk : Int))) 1 fun (px74 : Addr) =>
    GX.ST px74 0 [x73.v] w63 K))))))))))))))) := by
  have h40 := hg.size.2
  have hd := hg.deg hv
  obtain ⟨a, b, hab, ha, hback⟩ := hg.far hv hi
  obtain ⟨_, hb6, _⟩ := port_some hback
  have hda := hg.deg ha
  rw [he] at hab
  obtain ⟨rfl, rfl⟩ := Prod.mk.inj hab
  refine NEW_ST (one2 _ _) rfl fun pe w56 hpe hE56 hbe => ?_
  obtain ⟨hbx, ⟨ss, hR⟩, hZ⟩ := hB
  obtain ⟨t1, t2, t3⟩ := dblTo_step n.ends hv hi
  have hlen := dblTo_len n.ends v i
  have hsl := hR.len
  have hvs : v < ss.length := by omega
  obtain ⟨ra, hra⟩ : ∃ r, ss[v]? = some r := ⟨_, List.getElem?_eq_getElem hvs⟩
  obtain ⟨rb, hrb0⟩ : ∃ r, ss[v + n.ends.length]? = some r := ⟨_, List.getElem?_eq_getElem (by omega)⟩
  have hOa0 := hR.row v _ _ hra t1
  have hOb0 := hR.row _ _ _ hrb0 (by have := t2 []; rw [List.getElem?_set_ne (by omega)] at this; exact this)
  have fa : ¬ oB ra pe.block := fun hh => by have := (hOa0.blk _ hh).2; omega
  have fb : ¬ oB rb pe.block := fun hh => by have := (hOb0.blk _ hh).2; omega
  have fs : ¬ oB x pe.block := fun hh => by have := (hR.own.blk _ hh).2; omega
  intro w57 hE57 _
  have hE2 := hE56.trans hE57
  replace hE0 := hE0.ext hE2
  replace hbx := hbx.ext hE2
  replace hR := hR.ext hE2
  replace hZ := hZ.ext hE2
  replace hOa0 := hOa0.ext hE2
  replace hOb0 := hOb0.ext hE2
  replace hbe := hbe.ext hE57
  have hxa := hbx.notOwn hOa0 (by decide)
  have hxb := hbx.notOwn hOb0 (by decide)
  have hxs := hbx.notOwn hR.own (by decide)
  refine ⟨oB ra, by rw [add_block]; exact hxa, LD_bs0 hbx ⟨by rw [add_block]; exact hxa, LD_bs0 hbx ?_⟩⟩
  refine hR.ix (by omega) fun p1 r1 hr1 _ hc1 hb1 => ⟨fun hh => hR.block_ne (by decide) hra hh hb1, LD_sl hc1 ?_⟩
  rw [hra] at hr1; cases hr1
  refine ⟨by rw [add_block]; exact fa, LD_bi0 hbe ⟨Chg.refl _ _, LD_bi1 hbe ⟨Chg.refl _ _, Chg.refl _ _, ?_⟩⟩⟩
  rw [hkk, wrap_of (n := (a : Int) + _) (by omega) (by omega)]
  refine snocRow hR hE0.size_le t1 hra (by simp; omega) (by unfold I64; omega) fun w60 r' hR60 hC60 => ?_
  have hE60 := hC60.ext0 hE0 fun k hk => hk.elim (fun h1 => (hOa0.blk k h1).1) (fun h1 => (hR.own.blk k h1).1)
  have hbx60 := hbx.chg hC60 (fun hh => hh.elim hxa hxs)
  have hbe60 := hbe.chg hC60 (fun hh => hh.elim fa fs)
  have hZ60 := hZ.chg hC60 fun b hb hh => hh.elim (own_apart hZ hOa0 (by decide) b hb) (own_apart hZ hR.own (by decide) b hb)
  have hsz60 := hC60.size
  have hx1 : ((a : Int) + (n.ends.length : Int), (b : Int)) = upBy n.ends.length n.ends[v][i] := by rw [he]; rfl
  rw [hx1] at hR60
  intro w61 hE61 _
  replace hE60 := hE60.ext hE61
  replace hbx60 := hbx60.ext hE61
  replace hbe60 := hbe60.ext hE61
  replace hZ60 := hZ60.ext hE61
  replace hR60 := hR60.ext hE61
  have t2' := t2 (List.map (upBy n.ends.length) (List.take i n.ends[v]) ++ [upBy n.ends.length n.ends[v][i]])
  have hrb : (ss.set v r')[v + n.ends.length]? = some rb := by rw [List.getElem?_set_ne (by omega)]; exact hrb0
  have hOb := hR60.row _ _ _ hrb t2'
  have hxb60 := hbx60.notOwn hOb (by decide)
  have hxs60 := hbx60.notOwn hR60.own (by decide)
  have e2 : IntKind.i64.wrap ((v : Int) + (n.ends.length : Int)) = ((v + n.ends.length : Nat) : Int) := by rw [wrap_of (by omega) (by omega)]; omega
  refine ⟨oB rb, by rw [add_block]; exact hxb60, LD_bs0 hbx60 ⟨by rw [add_block]; exact hxb60, LD_bs0 hbx60 ?_⟩⟩
  rw [e2]
  refine hR60.ix (by rw [List.length_set, hlen]; omega) fun p2 r2 hr2 _ hc2 hb2 => ⟨fun hh => hR60.block_ne (by decide) hrb hh hb2, LD_sl hc2 ?_⟩
  rw [hrb] at hr2; cases hr2
  refine LD_box2 hbe60 ⟨Chg.refl _ _, ?_⟩
  refine snocRow hR60 hE60.size_le t2' hrb (by simp; omega) (by unfold I64; omega) fun w64 r'' hR64 hC64 => ?_
  refine hk w64 ⟨hbx60.chg hC64 (fun hh => hh.elim hxb60 hxs60), ⟨(ss.set v r').set (v + n.ends.length) r'', ?_⟩, hZ60.chg hC64 fun b hb hh => hh.elim (own_apart hZ60 hOb (by decide) b hb) (own_apart hZ60 hR60.own (by decide) b hb)⟩ (hC64.ext0 hE60 fun k hk => hk.elim (fun h1 => (hOb.blk k h1).1) (fun h1 => (hR60.own.blk k h1).1))
  have : ((a : Int), (b : Int)) = n.ends[v][i] := he.symm
  rw [this, t3] at hR64
  exact hR64

theorem dbl_netD {n : Net} (hg : Good n) {w : World} {base : Nat} {px : Addr} {x z : Sl} (hB : Bld w base px x z n.ends n.ends.length 0 (n.inputs ++ n.inputs)) (hI : ∀ y ∈ n.inputs, I64 y) :
    SlR (fun b => base ≤ b) w x (dbl n).ends ∧ SlR (fun b => base ≤ b) w ⟨none, 0, 0⟩ (dbl n).ids ∧ SlR (fun b => base ≤ b) w z (dbl n).inputs := by
  obtain ⟨_, ⟨ss, hR⟩, hZ⟩ := hB
  refine ⟨hR.own2.repD fun r hr e he => ((dblTo_ok hg) r hr).2 e he, (OwnL.nil w base T.t_int).rep (by simp), hZ.rep fun y hy => ?_⟩
  rcases List.mem_append.1 hy with h | h <;> exact hI y h

theorem dbl_net {n : Net} (hg : Good n) {w : World} {base : Nat} {px : Addr} {x z : Sl} (hB : Bld w base px x z n.ends n.ends.length 0 (n.inputs ++ n.inputs)) (hI : ∀ y ∈ n.inputs, I64 y) : RNet w x ⟨none, 0, 0⟩ z (dbl n) := by
  obtain ⟨h1, h2, h3⟩ := dbl_netD hg hB hI
  exact ⟨h1.any, h2.any, h3.any⟩

theorem i_network_ok {w : World} {a b c : Sl} {m : Net} (h : RNet w a b c m) (hs : m.ids.length ≤ 1048576) :
    Calls Try.prog F.i_network #[.agg #[a.v, b.v, c.v]] w (Ret [.agg [.sl, .sl, .sl], .at .bool] fun (x y z : Sl) (k : Bool) w' => Ext w w' ∧ (k = true ↔ Good m) ∧ (k = true → x = a ∧ y = b ∧ z = c)) := by
  refine C_i_network ?_
  unfold V_i_network
  refine NEW_intro fun p w1 hp hs1 hE1 hb1 => NEW_intro fun p2 w2 hp2 hs2 hE2 hb2 => LD_box3 (hb1.ext hE2) ?_
  have hE := hE1.trans hE2
  have hz := hE1.size_le
  replace h := h.ext hE
  replace hb1 := hb1.ext hE2
  refine call (isNetwork_ok h hs) ?_
  rintro x w3 ⟨hx, hE3⟩
  replace hE := hE.ext hE3
  replace hb1 := hb1.ext hE3
  replace hb2 := hb2.ext hE3
  refine cond_not (fun hf => ?_) (fun ht => ?_)
  · refine ST_all hb2 (vs := [(⟨none, 0, 0⟩ : Sl).v, (⟨none, 0, 0⟩ : Sl).v, (⟨none, 0, 0⟩ : Sl).v]) (one3 _ _ _) rfl fun w4 hs4 _ hb4 => LD_box3 hb4 ⟨hs4.ext0 hE fun k hk => by cases hk; omega, by rw [← hx]; simp [hf], by simp⟩
  · refine LD_box3 hb1 ?_
    refine ST_all hb2 (one3 _ _ _) rfl fun w4 hs4 _ hb4 => LD_box3 hb4 ⟨hs4.ext0 hE fun k hk => by cases hk; omega, by simp [hx.1 ht], fun _ => ⟨rfl, rfl, rfl⟩⟩


theorem s_neIf_ok {w : World} {a b c : Sl} {m : Net} (h : RNet w a b c m)  :
    Calls Try.prog F.s_neIf #[.agg #[a.v, b.v, c.v]] w (Ret [.agg [.sl, .sl, .sl], .at .bool] fun (x y z : Sl) (k : Bool) w' => Ext w w' ∧ (k = true ↔ Good m) ∧ (k = true → x = a ∧ y = b ∧ z = c)) := by
  refine C_s_neIf ?_
  unfold V_s_neIf
  refine NEW_intro fun p w1 hp hs1 hE1 hb1 => NEW_intro fun p2 w2 hp2 hs2 hE2 hb2 => LD_box3 (hb1.ext hE2) ?_
  have hE := hE1.trans hE2
  have hz := hE1.size_le
  replace h := h.ext hE
  replace hb1 := hb1.ext hE2
  refine call (neGood_ok h) ?_
  rintro x w3 ⟨hx, hE3⟩
  replace hE := hE.ext hE3
  replace hb1 := hb1.ext hE3
  replace hb2 := hb2.ext hE3
  refine cond_not (fun hf => ?_) (fun ht => ?_)
  · refine ST_all hb2 (vs := [(⟨none, 0, 0⟩ : Sl).v, (⟨none, 0, 0⟩ : Sl).v, (⟨none, 0, 0⟩ : Sl).v]) (one3 _ _ _) rfl fun w4 hs4 _ hb4 => LD_box3 hb4 ⟨hs4.ext0 hE fun k hk => by cases hk; omega, by rw [← hx]; simp [hf], by simp⟩
  · refine LD_box3 hb1 ?_
    refine ST_all hb2 (one3 _ _ _) rfl fun w4 hs4 _ hb4 => LD_box3 hb4 ⟨hs4.ext0 hE fun k hk => by cases hk; omega, by simp [hx.1 ht], fun _ => ⟨rfl, rfl, rfl⟩⟩

theorem inputs_I64 {w : World} {a b c : Sl} {n : Net} (h : RNet w a b c n) : ∀ y ∈ n.inputs, I64 y := fun y hy => flat_ok h.2.2 y hy

set_option maxHeartbeats 1000000 in
theorem DoubleCover_ok {w : World} {a b c : Sl} {n : Net} (h : RNet w a b c n) (hn : Small n) :
    Calls Try.prog F.i_DoubleCover #[.agg #[a.v, b.v, c.v]] w (Ret [.agg [.sl, .sl, .sl], .at .bool] fun (x y z : Sl) (k : Bool) w' => Ext w w' ∧ (k = true ↔ Good n ∧ Good (dbl n)) ∧ (k = true → RNet w' x y z (dbl n))) := by
  refine C_i_DoubleCover ?_
  unfold V_i_DoubleCover
  refine NEW_intro fun p w1 hp hs hE hb1 => NEW_intro fun p2 w2 hp2 hs2 hE2 hb2 => LD_box3 (hb1.ext hE2) ?_
  have hEE := hE.trans hE2
  have hz := hE.size_le
  replace h := h.ext hEE
  replace hb1 := hb1.ext hE2
  refine call (isNetwork_ok h hn.2.2.1) ?_
  rintro x w3 ⟨hx, hE3⟩
  replace hEE := hEE.ext hE3
  replace hb1 := hb1.ext hE3
  replace hb2 := hb2.ext hE3
  replace h := h.ext hE3
  have hI := inputs_I64 h
  refine cond_not (fun hf => ?_) (fun ht => ?_)
  · refine ST_all hb2 (vs := [(⟨none, 0, 0⟩ : Sl).v, (⟨none, 0, 0⟩ : Sl).v, (⟨none, 0, 0⟩ : Sl).v]) (one3 _ _ _) rfl fun w4 hs4 _ hb4 => LD_box3 hb4 ⟨hs4.ext0 hEE fun k hk => by cases hk; omega, ?_, by simp⟩
    constructor
    · intro hh; cases hh
    · intro hh; rw [hx.2 hh.1] at hf; cases hf
  have hg := hx.1 ht
  have h40 := hg.size.2
  have hin := hg.inputs.1
  refine LD_bs0 hb1 ?_
  intro w5 hE5 _
  replace hEE := hEE.ext hE5
  replace hb1 := hb1.ext hE5
  replace hb2 := hb2.ext hE5
  replace h := h.ext hE5
  have hK2 : ∀ (w' : World) (px : Addr) (s c' : Sl), Bld w' w5.heap.size px s c' n.ends 0 0 (n.inputs ++ n.inputs) → Ext w5 w' → V_i_DoubleCover_k2 (fun (x y z : Sl) (k : Bool) w' => Ext w w' ∧ (k = true ↔ Good n ∧ Good (dbl n)) ∧ (k = true → RNet w' x y z (dbl n))) p p2 a px w' := by
    intro w52 px s c' hB hA5
    unfold V_i_DoubleCover_k2
    refine LD_bs0 (hb1.ext hA5) ?_
    rw [h.1.len]
    refine ⟨IN n.ends.length fun v w' => Ext w5 w' ∧ Bld w' w5.heap.size px s c' n.ends v 0 (n.inputs ++ n.inputs), MN n.ends.length, IN_zero ⟨hA5, hB⟩, ?_⟩
    rintro _ w53 ⟨v, rfl, hv, hE53, hB53⟩
    intros
    refine cond_dec (fun hlt => ?_) (fun hge => ?_)
    · have hv' : v < n.ends.length := by omega
      refine h.1.ixL0 hE53 hv' fun q s1 hR1 hc => LD_sl hc ?_
      rw [hR1.len]
      refine ⟨IN n.ends[v].length fun i w' => Ext w5 w' ∧ Bld w' w5.heap.size px s c' n.ends v i (n.inputs ++ n.inputs), MN n.ends[v].length, IN_zero ⟨hE53, hB53⟩, ?_⟩
      rintro _ w54 ⟨i, rfl, hi, hE54, hB54⟩
      intros
      have hd := hg.deg hv'
      refine cond_dec (fun hlt2 => ?_) (fun hge2 => ?_)
      · have hi' : i < n.ends[v].length := by omega
        refine (hR1.ext hE54).ixE hi' fun q _ _ hc0 hc1 => LD_int2 hc0 hc1 ?_
        exact bld_port hg hB54 hE54 hv' hi' rfl rfl fun w' hB' hE' => IN_next (by omega) hi' ⟨hE', hB'⟩
      · have : i = n.ends[v].length := by omega
        subst this
        obtain ⟨e1, ⟨ss, e2⟩, e3⟩ := hB54
        rw [dblTo_row _ hv'] at e2
        exact IN_next (by omega) hv' ⟨hE54, e1, ⟨ss, e2⟩, e3⟩
    · have : v = n.ends.length := by omega
      subst this
      refine LD_box3 hB53.box ?_
      refine call (i_network_ok (dbl_net hg hB53 hI) (by simp [dbl])) ?_
      rintro x y z k w65 ⟨hE65, hk, hret⟩
      have hE565 := hE53.trans hE65
      refine ST_all (hb2.ext hE565) (one3 _ _ _) rfl fun w66 hs66 _ hb66 => LD_box3 hb66 ?_
      have hEw : Ext w w66 := hs66.ext0 (hEE.trans hE565) fun k hk => by cases hk; omega
      refine ⟨hEw, by rw [hk]; simp [hg], fun ht => ?_⟩
      obtain ⟨rfl, rfl, rfl⟩ := hret ht
      obtain ⟨d1, d2, d3⟩ := dbl_netD hg hB53 hI
      have hpb : ∀ b, w5.heap.size ≤ b → some p2.block ≠ some b := fun b hb he => by
        have := hb2.lt
        cases he
        omega
      exact ⟨((d1.ext hE65).stepD hs66 hpb).any, ((d2.ext hE65).stepD hs66 hpb).any, ((d3.ext hE65).stepD hs66 hpb).any⟩
  refine ⟨fun _ => False, not_false, LD_bs2 hb1 ⟨not_false, LD_bs2 hb1 ?_⟩⟩
  have e2 : IntKind.i64.wrap (2 * (a.len : Int)) = ((2 * n.ends.length : Nat) : Int) := by rw [h.1.len, wrap_of (by omega) (by omega)]; omega
  rw [e2]
  have hA := Ext.refl w5
  refine ⟨?_, ?_, ?_⟩
  · skip
    have hzM := hA.size_le
    refine RUN_make (α := Sl) slt_ends (d := ⟨none, 0, 0⟩) rfl (by omega) (by unfold maxLen; omega) fun s wM hEM hOM => ⟨.of_ext (hA.trans hEM), ?_⟩
    replace hOM := hOM.low (base' := w5.heap.size) (by omega)
    replace hA := hA.ext hEM
    replace h := h.ext hEM
    refine ⟨?_, ?_⟩
    · skip
      refine RUN_lits2 slt_ints c c fun y wL hEL hOL => ⟨.of_ext (hA.trans hEL), ?_⟩
      replace hA := hA.ext hEL
      replace h := h.ext hEL
      replace hOM := hOM.ext hEL
      refine ⟨?_, ?_⟩
      · skip
        have hzC := hA.size_le
        have hrep := OwnL.rows (D := fun _ => True) (l := [n.inputs, n.inputs]) hOL rfl (fun k h1 h2 => by match k, h1, h2 with | 0, _, _ => exact h.2.2 | 1, _, _ => exact h.2.2) (fun _ _ => trivial)
        refine call (concat_ok hrep (by simp) (by intro r hr; simp at hr; subst hr; omega)) ?_
        rintro c' wC ⟨hEC, hOC⟩
        refine ⟨.of_ext (hA.trans hEC), ?_⟩
        replace hOC := hOC.low (base' := w5.heap.size) (by omega)
        replace hA := hA.ext hEC
        replace h := h.ext hEC
        replace hOM := hOM.ext hEC
        replace hOL := hOL.ext hEC
        have hzN := hA.size_le
        refine NEW_intro fun px wN hpN hsN hEN hbN => ⟨.of_ext (hA.trans hEN), ?_⟩
        have hpz : w5.heap.size ≤ px.block := by omega
        replace hA := hA.ext hEN
        replace h := h.ext hEN
        replace hOM := hOM.ext hEN
        replace hOL := hOL.ext hEN
        replace hOC := hOC.ext hEN
        repeat (with_reducible refine ⟨Chg.of_ext hA, ?_⟩)
        refine ST_all hbN (by intro v hv; simp at hv; rcases hv with rfl | rfl | rfl <;> rfl) rfl fun wS hsS _ hbS => ⟨.of_ext (hsS.ext0 hA fun k hk => by cases hk; exact hpz), ?_⟩
        refine hK2 wS px s c' ⟨hbS, ⟨List.replicate (2 * n.ends.length) ⟨none, 0, 0⟩, ?_⟩, ?_⟩ (hsS.ext0 hA fun k hk => by cases hk; exact hpz)
        · rw [dblTo_zero]; exact rows_blank (hOM.stepB hbN (by decide) hsS)
        · simpa using hOC.stepB hbN (by decide) hsS
      · skip
        have hzN := hA.size_le
        refine NEW_intro fun px wN hpN hsN hEN hbN => ⟨.of_ext (hA.trans hEN), ?_⟩
        have hpz : w5.heap.size ≤ px.block := by omega
        replace hA := hA.ext hEN
        replace h := h.ext hEN
        replace hOM := hOM.ext hEN
        replace hOL := hOL.ext hEN
        have hzC := hA.size_le
        have hrep := OwnL.rows (D := fun _ => True) (l := [n.inputs, n.inputs]) hOL rfl (fun k h1 h2 => by match k, h1, h2 with | 0, _, _ => exact h.2.2 | 1, _, _ => exact h.2.2) (fun _ _ => trivial)
        refine call (concat_ok hrep (by simp) (by intro r hr; simp at hr; subst hr; omega)) ?_
        rintro c' wC ⟨hEC, hOC⟩
        refine ⟨.of_ext (hA.trans hEC), ?_⟩
        replace hOC := hOC.low (base' := w5.heap.size) (by omega)
        replace hA := hA.ext hEC
        replace h := h.ext hEC
        replace hOM := hOM.ext hEC
        replace hOL := hOL.ext hEC
        replace hbN := hbN.ext hEC
        repeat (with_reducible refine ⟨Chg.of_ext hA, ?_⟩)
        refine ST_all hbN (by intro v hv; simp at hv; rcases hv with rfl | rfl | rfl <;> rfl) rfl fun wS hsS _ hbS => ⟨.of_ext (hsS.ext0 hA fun k hk => by cases hk; exact hpz), ?_⟩
        refine hK2 wS px s c' ⟨hbS, ⟨List.replicate (2 * n.ends.length) ⟨none, 0, 0⟩, ?_⟩, ?_⟩ (hsS.ext0 hA fun k hk => by cases hk; exact hpz)
        · rw [dblTo_zero]; exact rows_blank (hOM.stepB hbN (by decide) hsS)
        · simpa using hOC.stepB hbN (by decide) hsS
    · skip
      have hzN := hA.size_le
      refine NEW_intro fun px wN hpN hsN hEN hbN => ⟨.of_ext (hA.trans hEN), ?_⟩
      have hpz : w5.heap.size ≤ px.block := by omega
      replace hA := hA.ext hEN
      replace h := h.ext hEN
      replace hOM := hOM.ext hEN
      refine RUN_lits2 slt_ints c c fun y wL hEL hOL => ⟨.of_ext (hA.trans hEL), ?_⟩
      replace hA := hA.ext hEL
      replace h := h.ext hEL
      replace hOM := hOM.ext hEL
      replace hbN := hbN.ext hEL
      have hzC := hA.size_le
      have hrep := OwnL.rows (D := fun _ => True) (l := [n.inputs, n.inputs]) hOL rfl (fun k h1 h2 => by match k, h1, h2 with | 0, _, _ => exact h.2.2 | 1, _, _ => exact h.2.2) (fun _ _ => trivial)
      refine call (concat_ok hrep (by simp) (by intro r hr; simp at hr; subst hr; omega)) ?_
      rintro c' wC ⟨hEC, hOC⟩
      refine ⟨.of_ext (hA.trans hEC), ?_⟩
      replace hOC := hOC.low (base' := w5.heap.size) (by omega)
      replace hA := hA.ext hEC
      replace h := h.ext hEC
      replace hOM := hOM.ext hEC
      replace hbN := hbN.ext hEC
      replace hOL := hOL.ext hEC
      repeat (with_reducible refine ⟨Chg.of_ext hA, ?_⟩)
      refine ST_all hbN (by intro v hv; simp at hv; rcases hv with rfl | rfl | rfl <;> rfl) rfl fun wS hsS _ hbS => ⟨.of_ext (hsS.ext0 hA fun k hk => by cases hk; exact hpz), ?_⟩
      refine hK2 wS px s c' ⟨hbS, ⟨List.replicate (2 * n.ends.length) ⟨none, 0, 0⟩, ?_⟩, ?_⟩ (hsS.ext0 hA fun k hk => by cases hk; exact hpz)
      · rw [dblTo_zero]; exact rows_blank (hOM.stepB hbN (by decide) hsS)
      · simpa using hOC.stepB hbN (by decide) hsS
  · skip
    refine RUN_lits2 slt_ints c c fun y wL hEL hOL => ⟨.of_ext (hA.trans hEL), ?_⟩
    replace hA := hA.ext hEL
    replace h := h.ext hEL
    refine ⟨?_, ?_, ?_⟩
    · skip
      have hzM := hA.size_le
      refine RUN_make (α := Sl) slt_ends (d := ⟨none, 0, 0⟩) rfl (by omega) (by unfold maxLen; omega) fun s wM hEM hOM => ⟨.of_ext (hA.trans hEM), ?_⟩
      replace hOM := hOM.low (base' := w5.heap.size) (by omega)
      replace hA := hA.ext hEM
      replace h := h.ext hEM
      replace hOL := hOL.ext hEM
      refine ⟨?_, ?_⟩
      · skip
        have hzC := hA.size_le
        have hrep := OwnL.rows (D := fun _ => True) (l := [n.inputs, n.inputs]) hOL rfl (fun k h1 h2 => by match k, h1, h2 with | 0, _, _ => exact h.2.2 | 1, _, _ => exact h.2.2) (fun _ _ => trivial)
        refine call (concat_ok hrep (by simp) (by intro r hr; simp at hr; subst hr; omega)) ?_
        rintro c' wC ⟨hEC, hOC⟩
        refine ⟨.of_ext (hA.trans hEC), ?_⟩
        replace hOC := hOC.low (base' := w5.heap.size) (by omega)
        replace hA := hA.ext hEC
        replace h := h.ext hEC
        replace hOL := hOL.ext hEC
        replace hOM := hOM.ext hEC
        have hzN := hA.size_le
        refine NEW_intro fun px wN hpN hsN hEN hbN => ⟨.of_ext (hA.trans hEN), ?_⟩
        have hpz : w5.heap.size ≤ px.block := by omega
        replace hA := hA.ext hEN
        replace h := h.ext hEN
        replace hOL := hOL.ext hEN
        replace hOM := hOM.ext hEN
        replace hOC := hOC.ext hEN
        repeat (with_reducible refine ⟨Chg.of_ext hA, ?_⟩)
        refine ST_all hbN (by intro v hv; simp at hv; rcases hv with rfl | rfl | rfl <;> rfl) rfl fun wS hsS _ hbS => ⟨.of_ext (hsS.ext0 hA fun k hk => by cases hk; exact hpz), ?_⟩
        refine hK2 wS px s c' ⟨hbS, ⟨List.replicate (2 * n.ends.length) ⟨none, 0, 0⟩, ?_⟩, ?_⟩ (hsS.ext0 hA fun k hk => by cases hk; exact hpz)
        · rw [dblTo_zero]; exact rows_blank (hOM.stepB hbN (by decide) hsS)
        · simpa using hOC.stepB hbN (by decide) hsS
      · skip
        have hzN := hA.size_le
        refine NEW_intro fun px wN hpN hsN hEN hbN => ⟨.of_ext (hA.trans hEN), ?_⟩
        have hpz : w5.heap.size ≤ px.block := by omega
        replace hA := hA.ext hEN
        replace h := h.ext hEN
        replace hOL := hOL.ext hEN
        replace hOM := hOM.ext hEN
        have hzC := hA.size_le
        have hrep := OwnL.rows (D := fun _ => True) (l := [n.inputs, n.inputs]) hOL rfl (fun k h1 h2 => by match k, h1, h2 with | 0, _, _ => exact h.2.2 | 1, _, _ => exact h.2.2) (fun _ _ => trivial)
        refine call (concat_ok hrep (by simp) (by intro r hr; simp at hr; subst hr; omega)) ?_
        rintro c' wC ⟨hEC, hOC⟩
        refine ⟨.of_ext (hA.trans hEC), ?_⟩
        replace hOC := hOC.low (base' := w5.heap.size) (by omega)
        replace hA := hA.ext hEC
        replace h := h.ext hEC
        replace hOL := hOL.ext hEC
        replace hOM := hOM.ext hEC
        replace hbN := hbN.ext hEC
        repeat (with_reducible refine ⟨Chg.of_ext hA, ?_⟩)
        refine ST_all hbN (by intro v hv; simp at hv; rcases hv with rfl | rfl | rfl <;> rfl) rfl fun wS hsS _ hbS => ⟨.of_ext (hsS.ext0 hA fun k hk => by cases hk; exact hpz), ?_⟩
        refine hK2 wS px s c' ⟨hbS, ⟨List.replicate (2 * n.ends.length) ⟨none, 0, 0⟩, ?_⟩, ?_⟩ (hsS.ext0 hA fun k hk => by cases hk; exact hpz)
        · rw [dblTo_zero]; exact rows_blank (hOM.stepB hbN (by decide) hsS)
        · simpa using hOC.stepB hbN (by decide) hsS
    · skip
      have hzC := hA.size_le
      have hrep := OwnL.rows (D := fun _ => True) (l := [n.inputs, n.inputs]) hOL rfl (fun k h1 h2 => by match k, h1, h2 with | 0, _, _ => exact h.2.2 | 1, _, _ => exact h.2.2) (fun _ _ => trivial)
      refine call (concat_ok hrep (by simp) (by intro r hr; simp at hr; subst hr; omega)) ?_
      rintro c' wC ⟨hEC, hOC⟩
      refine ⟨.of_ext (hA.trans hEC), ?_⟩
      replace hOC := hOC.low (base' := w5.heap.size) (by omega)
      replace hA := hA.ext hEC
      replace h := h.ext hEC
      replace hOL := hOL.ext hEC
      refine ⟨?_, ?_⟩
      · skip
        have hzM := hA.size_le
        refine RUN_make (α := Sl) slt_ends (d := ⟨none, 0, 0⟩) rfl (by omega) (by unfold maxLen; omega) fun s wM hEM hOM => ⟨.of_ext (hA.trans hEM), ?_⟩
        replace hOM := hOM.low (base' := w5.heap.size) (by omega)
        replace hA := hA.ext hEM
        replace h := h.ext hEM
        replace hOL := hOL.ext hEM
        replace hOC := hOC.ext hEM
        have hzN := hA.size_le
        refine NEW_intro fun px wN hpN hsN hEN hbN => ⟨.of_ext (hA.trans hEN), ?_⟩
        have hpz : w5.heap.size ≤ px.block := by omega
        replace hA := hA.ext hEN
        replace h := h.ext hEN
        replace hOL := hOL.ext hEN
        replace hOC := hOC.ext hEN
        replace hOM := hOM.ext hEN
        repeat (with_reducible refine ⟨Chg.of_ext hA, ?_⟩)
        refine ST_all hbN (by intro v hv; simp at hv; rcases hv with rfl | rfl | rfl <;> rfl) rfl fun wS hsS _ hbS => ⟨.of_ext (hsS.ext0 hA fun k hk => by cases hk; exact hpz), ?_⟩
        refine hK2 wS px s c' ⟨hbS, ⟨List.replicate (2 * n.ends.length) ⟨none, 0, 0⟩, ?_⟩, ?_⟩ (hsS.ext0 hA fun k hk => by cases hk; exact hpz)
        · rw [dblTo_zero]; exact rows_blank (hOM.stepB hbN (by decide) hsS)
        · simpa using hOC.stepB hbN (by decide) hsS
      · skip
        have hzN := hA.size_le
        refine NEW_intro fun px wN hpN hsN hEN hbN => ⟨.of_ext (hA.trans hEN), ?_⟩
        have hpz : w5.heap.size ≤ px.block := by omega
        replace hA := hA.ext hEN
        replace h := h.ext hEN
        replace hOL := hOL.ext hEN
        replace hOC := hOC.ext hEN
        have hzM := hA.size_le
        refine RUN_make (α := Sl) slt_ends (d := ⟨none, 0, 0⟩) rfl (by omega) (by unfold maxLen; omega) fun s wM hEM hOM => ⟨.of_ext (hA.trans hEM), ?_⟩
        replace hOM := hOM.low (base' := w5.heap.size) (by omega)
        replace hA := hA.ext hEM
        replace h := h.ext hEM
        replace hOL := hOL.ext hEM
        replace hOC := hOC.ext hEM
        replace hbN := hbN.ext hEM
        repeat (with_reducible refine ⟨Chg.of_ext hA, ?_⟩)
        refine ST_all hbN (by intro v hv; simp at hv; rcases hv with rfl | rfl | rfl <;> rfl) rfl fun wS hsS _ hbS => ⟨.of_ext (hsS.ext0 hA fun k hk => by cases hk; exact hpz), ?_⟩
        refine hK2 wS px s c' ⟨hbS, ⟨List.replicate (2 * n.ends.length) ⟨none, 0, 0⟩, ?_⟩, ?_⟩ (hsS.ext0 hA fun k hk => by cases hk; exact hpz)
        · rw [dblTo_zero]; exact rows_blank (hOM.stepB hbN (by decide) hsS)
        · simpa using hOC.stepB hbN (by decide) hsS
    · skip
      have hzN := hA.size_le
      refine NEW_intro fun px wN hpN hsN hEN hbN => ⟨.of_ext (hA.trans hEN), ?_⟩
      have hpz : w5.heap.size ≤ px.block := by omega
      replace hA := hA.ext hEN
      replace h := h.ext hEN
      replace hOL := hOL.ext hEN
      refine ⟨?_, ?_⟩
      · skip
        have hzM := hA.size_le
        refine RUN_make (α := Sl) slt_ends (d := ⟨none, 0, 0⟩) rfl (by omega) (by unfold maxLen; omega) fun s wM hEM hOM => ⟨.of_ext (hA.trans hEM), ?_⟩
        replace hOM := hOM.low (base' := w5.heap.size) (by omega)
        replace hA := hA.ext hEM
        replace h := h.ext hEM
        replace hOL := hOL.ext hEM
        replace hbN := hbN.ext hEM
        have hzC := hA.size_le
        have hrep := OwnL.rows (D := fun _ => True) (l := [n.inputs, n.inputs]) hOL rfl (fun k h1 h2 => by match k, h1, h2 with | 0, _, _ => exact h.2.2 | 1, _, _ => exact h.2.2) (fun _ _ => trivial)
        refine call (concat_ok hrep (by simp) (by intro r hr; simp at hr; subst hr; omega)) ?_
        rintro c' wC ⟨hEC, hOC⟩
        refine ⟨.of_ext (hA.trans hEC), ?_⟩
        replace hOC := hOC.low (base' := w5.heap.size) (by omega)
        replace hA := hA.ext hEC
        replace h := h.ext hEC
        replace hOL := hOL.ext hEC
        replace hbN := hbN.ext hEC
        replace hOM := hOM.ext hEC
        repeat (with_reducible refine ⟨Chg.of_ext hA, ?_⟩)
        refine ST_all hbN (by intro v hv; simp at hv; rcases hv with rfl | rfl | rfl <;> rfl) rfl fun wS hsS _ hbS => ⟨.of_ext (hsS.ext0 hA fun k hk => by cases hk; exact hpz), ?_⟩
        refine hK2 wS px s c' ⟨hbS, ⟨List.replicate (2 * n.ends.length) ⟨none, 0, 0⟩, ?_⟩, ?_⟩ (hsS.ext0 hA fun k hk => by cases hk; exact hpz)
        · rw [dblTo_zero]; exact rows_blank (hOM.stepB hbN (by decide) hsS)
        · simpa using hOC.stepB hbN (by decide) hsS
      · skip
        have hzC := hA.size_le
        have hrep := OwnL.rows (D := fun _ => True) (l := [n.inputs, n.inputs]) hOL rfl (fun k h1 h2 => by match k, h1, h2 with | 0, _, _ => exact h.2.2 | 1, _, _ => exact h.2.2) (fun _ _ => trivial)
        refine call (concat_ok hrep (by simp) (by intro r hr; simp at hr; subst hr; omega)) ?_
        rintro c' wC ⟨hEC, hOC⟩
        refine ⟨.of_ext (hA.trans hEC), ?_⟩
        replace hOC := hOC.low (base' := w5.heap.size) (by omega)
        replace hA := hA.ext hEC
        replace h := h.ext hEC
        replace hOL := hOL.ext hEC
        replace hbN := hbN.ext hEC
        have hzM := hA.size_le
        refine RUN_make (α := Sl) slt_ends (d := ⟨none, 0, 0⟩) rfl (by omega) (by unfold maxLen; omega) fun s wM hEM hOM => ⟨.of_ext (hA.trans hEM), ?_⟩
        replace hOM := hOM.low (base' := w5.heap.size) (by omega)
        replace hA := hA.ext hEM
        replace h := h.ext hEM
        replace hOL := hOL.ext hEM
        replace hbN := hbN.ext hEM
        replace hOC := hOC.ext hEM
        repeat (with_reducible refine ⟨Chg.of_ext hA, ?_⟩)
        refine ST_all hbN (by intro v hv; simp at hv; rcases hv with rfl | rfl | rfl <;> rfl) rfl fun wS hsS _ hbS => ⟨.of_ext (hsS.ext0 hA fun k hk => by cases hk; exact hpz), ?_⟩
        refine hK2 wS px s c' ⟨hbS, ⟨List.replicate (2 * n.ends.length) ⟨none, 0, 0⟩, ?_⟩, ?_⟩ (hsS.ext0 hA fun k hk => by cases hk; exact hpz)
        · rw [dblTo_zero]; exact rows_blank (hOM.stepB hbN (by decide) hsS)
        · simpa using hOC.stepB hbN (by decide) hsS
  · skip
    have hzN := hA.size_le
    refine NEW_intro fun px wN hpN hsN hEN hbN => ⟨.of_ext (hA.trans hEN), ?_⟩
    have hpz : w5.heap.size ≤ px.block := by omega
    replace hA := hA.ext hEN
    replace h := h.ext hEN
    refine ⟨?_, ?_⟩
    · skip
      have hzM := hA.size_le
      refine RUN_make (α := Sl) slt_ends (d := ⟨none, 0, 0⟩) rfl (by omega) (by unfold maxLen; omega) fun s wM hEM hOM => ⟨.of_ext (hA.trans hEM), ?_⟩
      replace hOM := hOM.low (base' := w5.heap.size) (by omega)
      replace hA := hA.ext hEM
      replace h := h.ext hEM
      replace hbN := hbN.ext hEM
      refine RUN_lits2 slt_ints c c fun y wL hEL hOL => ⟨.of_ext (hA.trans hEL), ?_⟩
      replace hA := hA.ext hEL
      replace h := h.ext hEL
      replace hbN := hbN.ext hEL
      replace hOM := hOM.ext hEL
      have hzC := hA.size_le
      have hrep := OwnL.rows (D := fun _ => True) (l := [n.inputs, n.inputs]) hOL rfl (fun k h1 h2 => by match k, h1, h2 with | 0, _, _ => exact h.2.2 | 1, _, _ => exact h.2.2) (fun _ _ => trivial)
      refine call (concat_ok hrep (by simp) (by intro r hr; simp at hr; subst hr; omega)) ?_
      rintro c' wC ⟨hEC, hOC⟩
      refine ⟨.of_ext (hA.trans hEC), ?_⟩
      replace hOC := hOC.low (base' := w5.heap.size) (by omega)
      replace hA := hA.ext hEC
      replace h := h.ext hEC
      replace hbN := hbN.ext hEC
      replace hOM := hOM.ext hEC
      replace hOL := hOL.ext hEC
      repeat (with_reducible refine ⟨Chg.of_ext hA, ?_⟩)
      refine ST_all hbN (by intro v hv; simp at hv; rcases hv with rfl | rfl | rfl <;> rfl) rfl fun wS hsS _ hbS => ⟨.of_ext (hsS.ext0 hA fun k hk => by cases hk; exact hpz), ?_⟩
      refine hK2 wS px s c' ⟨hbS, ⟨List.replicate (2 * n.ends.length) ⟨none, 0, 0⟩, ?_⟩, ?_⟩ (hsS.ext0 hA fun k hk => by cases hk; exact hpz)
      · rw [dblTo_zero]; exact rows_blank (hOM.stepB hbN (by decide) hsS)
      · simpa using hOC.stepB hbN (by decide) hsS
    · skip
      refine RUN_lits2 slt_ints c c fun y wL hEL hOL => ⟨.of_ext (hA.trans hEL), ?_⟩
      replace hA := hA.ext hEL
      replace h := h.ext hEL
      replace hbN := hbN.ext hEL
      refine ⟨?_, ?_⟩
      · skip
        have hzM := hA.size_le
        refine RUN_make (α := Sl) slt_ends (d := ⟨none, 0, 0⟩) rfl (by omega) (by unfold maxLen; omega) fun s wM hEM hOM => ⟨.of_ext (hA.trans hEM), ?_⟩
        replace hOM := hOM.low (base' := w5.heap.size) (by omega)
        replace hA := hA.ext hEM
        replace h := h.ext hEM
        replace hbN := hbN.ext hEM
        replace hOL := hOL.ext hEM
        have hzC := hA.size_le
        have hrep := OwnL.rows (D := fun _ => True) (l := [n.inputs, n.inputs]) hOL rfl (fun k h1 h2 => by match k, h1, h2 with | 0, _, _ => exact h.2.2 | 1, _, _ => exact h.2.2) (fun _ _ => trivial)
        refine call (concat_ok hrep (by simp) (by intro r hr; simp at hr; subst hr; omega)) ?_
        rintro c' wC ⟨hEC, hOC⟩
        refine ⟨.of_ext (hA.trans hEC), ?_⟩
        replace hOC := hOC.low (base' := w5.heap.size) (by omega)
        replace hA := hA.ext hEC
        replace h := h.ext hEC
        replace hbN := hbN.ext hEC
        replace hOL := hOL.ext hEC
        replace hOM := hOM.ext hEC
        repeat (with_reducible refine ⟨Chg.of_ext hA, ?_⟩)
        refine ST_all hbN (by intro v hv; simp at hv; rcases hv with rfl | rfl | rfl <;> rfl) rfl fun wS hsS _ hbS => ⟨.of_ext (hsS.ext0 hA fun k hk => by cases hk; exact hpz), ?_⟩
        refine hK2 wS px s c' ⟨hbS, ⟨List.replicate (2 * n.ends.length) ⟨none, 0, 0⟩, ?_⟩, ?_⟩ (hsS.ext0 hA fun k hk => by cases hk; exact hpz)
        · rw [dblTo_zero]; exact rows_blank (hOM.stepB hbN (by decide) hsS)
        · simpa using hOC.stepB hbN (by decide) hsS
      · skip
        have hzC := hA.size_le
        have hrep := OwnL.rows (D := fun _ => True) (l := [n.inputs, n.inputs]) hOL rfl (fun k h1 h2 => by match k, h1, h2 with | 0, _, _ => exact h.2.2 | 1, _, _ => exact h.2.2) (fun _ _ => trivial)
        refine call (concat_ok hrep (by simp) (by intro r hr; simp at hr; subst hr; omega)) ?_
        rintro c' wC ⟨hEC, hOC⟩
        refine ⟨.of_ext (hA.trans hEC), ?_⟩
        replace hOC := hOC.low (base' := w5.heap.size) (by omega)
        replace hA := hA.ext hEC
        replace h := h.ext hEC
        replace hbN := hbN.ext hEC
        replace hOL := hOL.ext hEC
        have hzM := hA.size_le
        refine RUN_make (α := Sl) slt_ends (d := ⟨none, 0, 0⟩) rfl (by omega) (by unfold maxLen; omega) fun s wM hEM hOM => ⟨.of_ext (hA.trans hEM), ?_⟩
        replace hOM := hOM.low (base' := w5.heap.size) (by omega)
        replace hA := hA.ext hEM
        replace h := h.ext hEM
        replace hbN := hbN.ext hEM
        replace hOL := hOL.ext hEM
        replace hOC := hOC.ext hEM
        repeat (with_reducible refine ⟨Chg.of_ext hA, ?_⟩)
        refine ST_all hbN (by intro v hv; simp at hv; rcases hv with rfl | rfl | rfl <;> rfl) rfl fun wS hsS _ hbS => ⟨.of_ext (hsS.ext0 hA fun k hk => by cases hk; exact hpz), ?_⟩
        refine hK2 wS px s c' ⟨hbS, ⟨List.replicate (2 * n.ends.length) ⟨none, 0, 0⟩, ?_⟩, ?_⟩ (hsS.ext0 hA fun k hk => by cases hk; exact hpz)
        · rw [dblTo_zero]; exact rows_blank (hOM.stepB hbN (by decide) hsS)
        · simpa using hOC.stepB hbN (by decide) hsS

theorem Bld.stepZ {w w' : World} {base : Nat} {px : Addr} {x z : Sl} {E : Ends} {v i : Nat} {Z Z' : List Int} (h : Bld w base px x z E v i Z) (hO : OwnL w' base T.t_int z Z') (hs : Step w w' z.v.ownBlock) : Bld w' base px x z E v i Z' := by
  obtain ⟨h1, ⟨ss, h2⟩, h3⟩ := h
  exact ⟨h1.stepT h3 (by decide) hs, ⟨ss, h2.own.step h3 (by decide) hs, h2.len, fun i r l hr hl => (h2.row i r l hr hl).step h3 (by decide) hs, h2.apart⟩, hO⟩

def zTo (I : List Int) (v : Nat) : List Int := I.take v ++ List.replicate (I.length - v) 0

theorem buDouble_ok {w : World} {a b c : Sl} {n : Net} (h : RNet w a b c n) (hg : Good n) :
    Calls Try.prog F.s_buDouble #[.agg #[a.v, b.v, c.v]] w (Ret [.agg [.sl, .sl, .sl]] fun (x y z : Sl) w' => Ext w w' ∧ RNet w' x y z (dbl n)) := by
  refine C_s_buDouble ?_
  unfold V_s_buDouble
  refine NEW_intro fun p w1 hp hs hE hb1 => NEW_intro fun p2 w2 hp2 hs2 hE2 hb2 => LD_bs0 (hb1.ext hE2) ?_
  have h40 := hg.size.2
  have hin := hg.inputs.1
  have hz := hE.size_le
  have hEE := hE.trans hE2
  replace h := h.ext hEE
  replace hb1 := hb1.ext hE2
  have hI := inputs_I64 h
  rw [h.1.len]
  have e2 : IntKind.i64.wrap (2 * (n.ends.length : Int)) = ((2 * n.ends.length : Nat) : Int) := by rw [wrap_of (by omega) (by omega)]; omega
  rw [e2]
  refine call (neEmpty_ok (by omega) w2) ?_
  rintro s y z w3 ⟨hE3, hO3, rfl, hZ3⟩
  refine NEW_ST (one3 _ _ _) rfl fun px w5 hpx hE5 hbx => ?_
  have hz3 := hE3.size_le
  have hE25 := hE3.trans hE5
  refine LD_bs0 (hb1.ext hE25) ?_
  rw [h.1.len]
  have hB5 : Bld w5 w2.heap.size px s z n.ends 0 0 (zTo n.inputs 0 ++ zTo n.inputs 0) := ⟨hbx, ⟨_, by rw [dblTo_zero]; exact rows_blank (hO3.ext hE5)⟩, by
    have e3 : zTo n.inputs 0 ++ zTo n.inputs 0 = List.replicate (2 * n.ends.length) 0 := by simp [zTo, hin]; omega
    rw [e3]; exact hZ3.ext hE5⟩
  refine ⟨IN n.ends.length fun v w' => Ext w2 w' ∧ Bld w' w2.heap.size px s z n.ends v 0 (zTo n.inputs v ++ zTo n.inputs v), MN n.ends.length, IN_zero ⟨hE25, hB5⟩, ?_⟩
  rintro _ w6 ⟨v, rfl, hv, hE6, hB6⟩
  intros
  refine cond_dec (fun hlt => ?_) (fun hge => ?_)
  · have hv' : v < n.ends.length := by omega
    refine h.1.ixL0 hE6 hv' fun q s1 hR1 hc => LD_sl hc ?_
    rw [hR1.len]
    refine ⟨IN n.ends[v].length fun i w' => Ext w2 w' ∧ Bld w' w2.heap.size px s z n.ends v i (zTo n.inputs v ++ zTo n.inputs v), MN n.ends[v].length, IN_zero ⟨hE6, hB6⟩, ?_⟩
    rintro _ w7 ⟨i, rfl, hi, hE7, hB7⟩
    intros
    have hd := hg.deg hv'
    refine cond_dec (fun hlt2 => ?_) (fun hge2 => ?_)
    · have hi' : i < n.ends[v].length := by omega
      refine (hR1.ext hE7).ixE hi' fun q _ _ hc0 hc1 => LD_int2 hc0 hc1 ?_
      exact bld_port hg hB7 hE7 hv' hi' rfl rfl fun w' hB' hE' => IN_next (by omega) hi' ⟨hE', hB'⟩
    · have : i = n.ends[v].length := by omega
      subst this
      have hB8 : Bld w7 w2.heap.size px s z n.ends (v + 1) 0 (zTo n.inputs v ++ zTo n.inputs v) := by
        obtain ⟨e1, ⟨ss, e2⟩, e3⟩ := hB7
        rw [dblTo_row _ hv'] at e2
        exact ⟨e1, ⟨ss, e2⟩, e3⟩
      have hvi : v < n.inputs.length := by omega
      have hzl : ∀ u, u ≤ n.inputs.length → (zTo n.inputs u).length = n.inputs.length := fun u hu => by unfold zTo; exact fill_len hu 0
      have hzl1 := hzl v (by omega)
      have hzl2 := hzl (v + 1) (by omega)
      have hst : (zTo n.inputs v).set v n.inputs[v] = zTo n.inputs (v + 1) := fill_step hvi 0
      intro w18 hE18 _
      replace hE7 := hE7.ext hE18
      replace hB8 := hB8.ext hE18
      refine ⟨fun _ => False, not_false, LD_bs2 hB8.box ⟨not_false, LD_bs2 (hb1.ext hE7) ⟨Chg.refl _ _, ?_⟩⟩⟩
      refine (h.2.2.ext hE7).ixI hvi fun q _ hcq => ⟨Chg.refl _ _, LD_int hcq ⟨Chg.refl _ _, ?_⟩⟩
      refine IX_own hB8.ins (by simp [hzl1]; omega) rfl fun q hq => ?_
      refine ST_own hB8.ins (by simp [hzl1]; omega) hq n.inputs[v] rfl fun w19 hO19 hs19 => ?_
      rw [List.set_append_left _ _ (by omega), hst] at hO19
      have hE19 := hs19.ext0 hE7 fun k hk => (hB8.ins.blk k hk).1
      have hB19 := hB8.stepZ hO19 hs19
      intro w20 hE20 _
      replace hE19 := hE19.ext hE20
      replace hB19 := hB19.ext hE20
      refine ⟨fun _ => False, not_false, LD_bs2 hB19.box ⟨not_false, LD_bs2 (hb1.ext hE19) ⟨Chg.refl _ _, ?_⟩⟩⟩
      refine (h.2.2.ext hE19).ixI hvi fun q _ hcq => ⟨Chg.refl _ _, LD_int hcq ⟨Chg.refl _ _, ?_⟩⟩
      have e4 : IntKind.i64.wrap ((v : Int) + (n.ends.length : Int)) = ((v + n.ends.length : Nat) : Int) := by rw [wrap_of (by omega) (by omega)]; omega
      rw [e4]
      refine IX_own hB19.ins (by simp [hzl1, hzl2]; omega) rfl fun q hq => ?_
      refine ST_own hB19.ins (by simp [hzl1, hzl2]; omega) hq n.inputs[v] rfl fun w21 hO21 hs21 => ?_
      rw [List.set_append_right _ _ (by omega), hzl2, hin, Nat.add_sub_cancel, hst] at hO21
      exact IN_next (by omega) hv' ⟨hs21.ext0 hE19 fun k hk => (hB19.ins.blk k hk).1, hB19.stepZ hO21 hs21⟩
  · have : v = n.ends.length := by omega
    subst this
    have e3 : zTo n.inputs n.ends.length ++ zTo n.inputs n.ends.length = n.inputs ++ n.inputs := by unfold zTo; rw [hin]; simp [← hin]
    rw [e3] at hB6
    refine LD_box3 hB6.box ?_
    refine ST_all (hb2.ext hE6) (one3 _ _ _) rfl fun w22 hs22 _ hb22 => LD_box3 hb22 ?_
    obtain ⟨d1, d2, d3⟩ := dbl_netD hg hB6 hI
    have hpb : ∀ b, w2.heap.size ≤ b → some p2.block ≠ some b := fun b hb he => by
      have := hb2.lt
      cases he
      omega
    exact ⟨hs22.ext0 (hEE.trans hE6) fun k hk => by cases hk; omega, (d1.stepD hs22 hpb).any, (d2.stepD hs22 hpb).any, (d3.stepD hs22 hpb).any⟩

theorem sDoubleCover_ok {w : World} {a b c : Sl} {n : Net} (h : RNet w a b c n) :
    Calls Try.prog F.s_DoubleCover #[.agg #[a.v, b.v, c.v]] w (Ret [.agg [.sl, .sl, .sl], .at .bool] fun (_ _ _ : Sl) (k : Bool) w' => Ext w w' ∧ (k = true ↔ Good n ∧ Good (dbl n))) := by
  refine C_s_DoubleCover ?_
  unfold V_s_DoubleCover
  refine NEW_intro fun p w1 hp hs hE hb1 => NEW_intro fun p2 w2 hp2 hs2 hE2 hb2 => LD_box3 (hb1.ext hE2) ?_
  have hz := hE.size_le
  have hEE := hE.trans hE2
  replace h := h.ext hEE
  replace hb1 := hb1.ext hE2
  refine call (neGood_ok h) ?_
  rintro x w3 ⟨hx, hE3⟩
  replace hEE := hEE.ext hE3
  replace hb1 := hb1.ext hE3
  replace hb2 := hb2.ext hE3
  replace h := h.ext hE3
  refine cond_not (fun hf => ?_) (fun ht => ?_)
  · refine ST_all hb2 (vs := [(⟨none, 0, 0⟩ : Sl).v, (⟨none, 0, 0⟩ : Sl).v, (⟨none, 0, 0⟩ : Sl).v]) (one3 _ _ _) rfl fun w4 hs4 _ hb4 => LD_box3 hb4 ⟨hs4.ext0 hEE fun k hk => by cases hk; omega, ?_⟩
    constructor
    · intro hh; cases hh
    · intro hh; rw [hx.2 hh.1] at hf; cases hf
  have hg := hx.1 ht
  refine LD_box3 hb1 ?_
  refine call (buDouble_ok h hg) ?_
  rintro x9 y9 z9 w5 ⟨hE5, hN5⟩
  replace hEE := hEE.ext hE5
  replace hb2 := hb2.ext hE5
  refine call (s_neIf_ok hN5) ?_
  rintro x y z k w6 ⟨hE6, hk, _⟩
  replace hEE := hEE.ext hE6
  replace hb2 := hb2.ext hE6
  refine ST_all hb2 (one3 _ _ _) rfl fun w7 hs7 _ hb7 => LD_box3 hb7 ⟨hs7.ext0 hEE fun k hk => by cases hk; omega, by rw [hk]; simp [hg]⟩

end Go.Proofs.Ytknnjkmggenliaa
