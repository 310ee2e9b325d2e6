/- Colourings of edges by the least colours, both sides. -/
import Derived.Test.YtknnjkmggenliaaEdgeCol
import Derived.Test.YtknnjkmggenliaaMat
import Derived.Test.YtknnjkmggenliaaDrop
import Derived.Test.YtknnjkmggenliaaConcat
namespace Go.Proofs.Ytknnjkmggenliaa
open Go.GX Go.RowKit
set_option maxRecDepth 100000

/-! ### What is computed -/

def set2 (M : List (List Int)) (v i : Nat) (c : Int) : List (List Int) := M.set v ((M.getD v []).set i c)
def colE (M : List (List Int)) (q : Edge) : Nat := mex (M.getD q.1.toNat [] ++ M.getD q.2.2.1.toNat [])
def stepC (M : List (List Int)) (q : Edge) : List (List Int) := set2 (set2 M q.1.toNat q.2.1.toNat (colE M q)) q.2.2.1.toNat q.2.2.2.toNat (colE M q)
def emptyM (E : Ends) : List (List Int) := E.map fun r => List.replicate r.length (-1)
def greedyC (E : Ends) (l : List Edge) : List (List Int) := l.foldl stepC (emptyM E)

theorem greedyC_snoc (E : Ends) (l : List Edge) (q : Edge) : greedyC E (l ++ [q]) = stepC (greedyC E l) q := by simp [greedyC]

theorem set2_get {M : List (List Int)} {v i : Nat} (hv : v < M.length) (c : Int) : set2 M v i c = M.set v (M[v].set i c) := by unfold set2; rw [rowD hv]

theorem set2_rows {E : Ends} {M : List (List Int)} (h : SameRows E M) (v i : Nat) (c : Int) : SameRows E (set2 M v i c) := by
  refine ⟨by simp [set2, h.1], fun u hu => ?_⟩
  have hu' : u < M.length := by simpa [set2] using hu
  rw [← h.2 u hu']
  unfold set2
  simp only [List.getD_eq_getElem?_getD]
  by_cases huv : v = u
  · subst huv
    rw [List.getElem?_set_self hu']
    simp
  · rw [List.getElem?_set_ne huv]

theorem stepC_rows {E : Ends} {M : List (List Int)} (h : SameRows E M) (q : Edge) : SameRows E (stepC M q) := set2_rows (set2_rows h _ _ _) _ _ _

theorem emptyM_rows (E : Ends) : SameRows E (emptyM E) := by
  refine ⟨by simp [emptyM], fun u hu => ?_⟩
  have hu' : u < E.length := by simpa [emptyM] using hu
  simp [emptyM, List.getD_eq_getElem?_getD, hu']

theorem greedyC_rows (E : Ends) (l : List Edge) : SameRows E (greedyC E l) := by
  have : ∀ (l : List Edge) (M : List (List Int)), SameRows E M → SameRows E (l.foldl stepC M) := by
    intro l
    induction l with
    | nil => intro M h; exact h
    | cons q r ih => intro M h; exact ih _ (stepC_rows h q)
  exact this l _ (emptyM_rows E)

def Cells (M : List (List Int)) : Prop := ∀ r ∈ M, r.length ≤ 6 ∧ ∀ x ∈ r, -1 ≤ x ∧ x ≤ 100
theorem Cells.I64 {M : List (List Int)} (h : Cells M) : ∀ r ∈ M, ∀ x ∈ r, GX.I64 x := fun r hr x hx => by have := (h r hr).2 x hx; unfold GX.I64; omega

theorem getD_cells {M : List (List Int)} (h : Cells M) (v : Nat) : (M.getD v []).length ≤ 6 ∧ ∀ x ∈ M.getD v [], -1 ≤ x ∧ x ≤ 100 := by
  by_cases hv : v < M.length
  · rw [rowD hv]; exact h _ (List.getElem_mem hv)
  · rw [List.getD_eq_getElem?_getD, List.getElem?_eq_none (by omega)]; simp

theorem set2_cells {M : List (List Int)} (h : Cells M) (v i : Nat) {c : Int} (hc : -1 ≤ c ∧ c ≤ 100) : Cells (set2 M v i c) := fun r hr => by
  unfold set2 at hr
  rcases List.mem_or_eq_of_mem_set hr with h1 | rfl
  · exact h r h1
  · have hg := getD_cells h v
    refine ⟨by simpa using hg.1, fun x hx => ?_⟩
    rcases List.mem_or_eq_of_mem_set hx with h2 | rfl
    · exact hg.2 x h2
    · exact hc

theorem colE_le {M : List (List Int)} (h : Cells M) (q : Edge) : colE M q ≤ 12 := by
  unfold colE
  have h1 := (getD_cells h q.1.toNat).1
  have h2 := (getD_cells h q.2.2.1.toNat).1
  have := mex_le (M.getD q.1.toNat [] ++ M.getD q.2.2.1.toNat [])
  rw [List.length_append] at this
  omega

theorem stepC_cells {M : List (List Int)} (h : Cells M) (q : Edge) : Cells (stepC M q) := by
  have := colE_le h q
  exact set2_cells (set2_cells h _ _ (by omega)) _ _ (by omega)

theorem emptyM_cells {n : Net} (hg : Good n) : Cells (emptyM n.ends) := fun r hr => by
  obtain ⟨q, hq, rfl⟩ := List.mem_map.1 hr
  obtain ⟨v, hv, rfl⟩ := List.mem_iff_getElem.1 hq
  refine ⟨by simpa using hg.deg hv, fun x hx => ?_⟩
  rw [List.eq_of_mem_replicate hx]; omega

theorem greedyC_cells {n : Net} (hg : Good n) (l : List Edge) : Cells (greedyC n.ends l) := by
  have : ∀ (l : List Edge) (M : List (List Int)), Cells M → Cells (l.foldl stepC M) := by
    intro l
    induction l with
    | nil => intro M h; exact h
    | cons q r ih => intro M h; exact ih _ (stepC_cells h q)
  exact this l _ (emptyM_cells hg)

def Looped (q : Edge) : Bool := q.1 == q.2.2.1 && q.2.1 != q.2.2.2
def NoLoops (E : Ends) : Prop := (edgesOf E).any Looped = false

/-! ### Matrices without labels -/

theorem unlabeled_ok {w : World} {a b c : Sl} {n : Net} (h : RNet w a b c n) (hg : Good n) :
    Calls Try.prog F.i_unlabeled #[.agg #[a.v, b.v, c.v]] w (Ret [.at .sl] fun (r : Sl) w' => Ext w w' ∧ ∃ ss, RowsD w' w.heap.size T.t_int T.t_sl_int r (emptyM n.ends) ss) := by
  refine C_i_unlabeled ?_
  unfold V_i_unlabeled
  have h40 := hg.size.2
  refine NEW_intro fun p w1 hp hs hE hb1 => LD_bs0 hb1 ?_
  replace h := h.ext hE
  rw [h.1.len]
  refine RUN_make (α := Sl) slt_rows (d := ⟨none, 0, 0⟩) rfl (by omega) (by unfold maxLen; omega) fun s w2 hE2 hO2 => ?_
  refine LD_bs0 (hb1.ext hE2) ?_
  rw [h.1.len]
  refine ⟨IN n.ends.length fun v w' => Ext w1 w' ∧ ∃ ss, RowsD w' w1.heap.size T.t_int T.t_sl_int s ((emptyM n.ends).take v ++ List.replicate (n.ends.length - v) []) ss ∧ (∀ u, v ≤ u → u < ss.length → ss[u]? = some ⟨none, 0, 0⟩), MN n.ends.length,
    IN_zero ⟨hE2, List.replicate n.ends.length ⟨none, 0, 0⟩, ⟨hO2, by simp, fun i r l hr hl => ?_, fun i j r q hr hq _ k hk => ?_⟩, fun u _ hu => ?_⟩, ?_⟩
  · simp only [List.take_zero, List.nil_append, Nat.sub_zero] at hl
    have h1 := List.eq_of_mem_replicate (List.mem_of_getElem? hr)
    have h2 := List.eq_of_mem_replicate (List.mem_of_getElem? hl)
    rw [h1, h2]; exact OwnL.nil _ _ _
  · have h1 := List.eq_of_mem_replicate (List.mem_of_getElem? hr)
    rw [h1] at hk; cases hk
  · rw [List.getElem?_eq_getElem hu]; simp
  rintro _ w3 ⟨v, rfl, hv, hE13, ss, hR, hN⟩
  intros
  have hml : (emptyM n.ends).length = n.ends.length := by simp [emptyM]
  refine cond_dec (fun hlt => ?_) (fun hge => ?_)
  · have hv' : v < n.ends.length := by omega
    have hd := hg.deg hv'
    refine (h.ext hE13).1.ixL hv' fun q s1 hR1 hc => LD_sl hc ?_
    refine RUN_lit1 (α := Int) slt_int (-1) rfl (by decide) fun r1 w4 hE4 hO4 => ?_
    rw [hR1.len]
    refine call (repeat_ok (hO4.rep (by intro x hx; simp at hx; subst hx; show I64 _; unfold I64; omega)).any (by unfold I64; omega) (by omega)) ?_
    rintro r2 w5 ⟨hE5, hO5⟩
    have hE35 := hE4.trans hE5
    have hlen : ((emptyM n.ends).take v ++ List.replicate (n.ends.length - v) ([] : List Int)).length = n.ends.length := by simp [hml]; omega
    have hsl := hR.len
    refine (hR.ext hE35).ixP (by rw [hlen]; exact hv') fun pa hpa => ?_
    have hz4 := hE4.size_le
    have hz13 := hE13.size_le
    refine RowsD.put (w := w3) (w1 := w5) hR (by decide) (by rw [hlen]; exact hv') (hN v (Nat.le_refl _) (by omega)) (l' := List.replicate n.ends[v].length (-1)) (hO5.low (by omega)) (.of_ext hE35 _) (.inr fun k hk => by have := (hO5.blk k hk).1; omega) hpa fun w6 hR6 hs6 => ?_
    refine IN_next (by omega) hv' ⟨hs6.ext0 (hE13.trans hE35) (fun k hk => (hR.own.blk k hk).1), ss.set v r2, ?_, fun u hu1 hu2 => ?_⟩
    · have e1 : ((emptyM n.ends).take v ++ List.replicate (n.ends.length - v) []).set v (List.replicate n.ends[v].length (-1)) = (emptyM n.ends).take (v + 1) ++ List.replicate (n.ends.length - (v + 1)) [] := by
        have e2 : (emptyM n.ends)[v]'(by omega) = List.replicate n.ends[v].length (-1) := by simp [emptyM]
        have := fill_step (l := emptyM n.ends) (i := v) (by omega) ([] : List Int)
        rw [e2] at this
        simp only [hml] at this
        exact this
      rw [← e1]; exact hR6
    · rw [List.getElem?_set_ne (by omega)]
      exact hN u (by omega) (by simpa using hu2)
  · have : v = n.ends.length := by omega
    subst this
    refine ⟨hE.trans hE13, ss, ?_⟩
    have e1 : (emptyM n.ends).take n.ends.length ++ List.replicate (n.ends.length - n.ends.length) [] = emptyM n.ends := by rw [← hml]; simp
    rw [e1] at hR
    exact hR.low hE.size_le

theorem soEmpty_ok {w : World} {a b c : Sl} {n : Net} (h : RNet w a b c n) (hg : Good n) :
    Calls Try.prog F.s_soEmpty #[.agg #[a.v, b.v, c.v]] w (Ret [.at .sl] fun (r : Sl) w' => Ext w w' ∧ ∃ ss, RowsD w' w.heap.size T.t_int T.t_sl_int r (emptyM n.ends) ss) := by
  refine C_s_soEmpty ?_
  unfold V_s_soEmpty
  have h40 := hg.size.2
  refine NEW_intro fun p w1 hp hs hE hb1 => LD_bs0 hb1 ?_
  replace h := h.ext hE
  rw [h.1.len]
  have hml : (emptyM n.ends).length = n.ends.length := by simp [emptyM]
  refine ⟨IN2 n.ends.length fun v (out : Sl) w' => Ext w1 w' ∧ ∃ ss, RowsD w' w1.heap.size T.t_int T.t_sl_int out ((emptyM n.ends).take v) ss, MN2 n.ends.length, IN2_zero ⟨Ext.refl _, [], by simpa using RowsD.nil _ _ _ _⟩, ?_⟩
  rintro out _ w2 ⟨v, rfl, hv, hE2, ss, hR⟩
  intros
  refine cond_dec (fun hlt => ?_) (fun hge => ?_)
  · have hv' : v < n.ends.length := by omega
    have hd := hg.deg hv'
    refine (h.ext hE2).1.ixL hv' fun q s1 hR1 hc => LD_sl hc ?_
    rw [hR1.len]
    refine RUN_make (α := Int) slt_int (d := 0) rfl (by omega) (by unfold maxLen; omega) fun r1 w3 hE3 hO3 => ?_
    have hz2 := hE2.size_le
    have hrl : r1.len = n.ends[v].length := by rw [hO3.1]; simp
    rw [hrl]
    refine ⟨IN n.ends[v].length fun i w' => Ext w2 w' ∧ OwnL w' w2.heap.size T.t_int r1 (List.replicate i (-1) ++ List.replicate (n.ends[v].length - i) 0), MN n.ends[v].length, IN_zero ⟨hE3, by simpa using hO3⟩, ?_⟩
    rintro _ w4 ⟨i, rfl, hi, hE4, hO4⟩
    intros
    refine cond_dec (fun hlt2 => ?_) (fun hge2 => ?_)
    · have hi' : i < n.ends[v].length := by omega
      refine IX_own hO4 (by simp; omega) rfl fun pa hpa => ?_
      refine ST_own hO4 (by simp; omega) hpa (-1 : Int) rfl fun w5 hO5 hs5 => ?_
      refine IN_next (by omega) hi' ⟨hs5.ext0 hE4 (fun k hk => (hO4.blk k hk).1), ?_⟩
      have e1 : (List.replicate i (-1 : Int) ++ List.replicate (n.ends[v].length - i) 0).set i (-1) = List.replicate (i + 1) (-1) ++ List.replicate (n.ends[v].length - (i + 1)) 0 := by
        rw [List.set_append_right _ _ (by simp), List.length_replicate, Nat.sub_self, show n.ends[v].length - i = (n.ends[v].length - (i + 1)) + 1 by omega, List.replicate_succ, List.set_cons_zero, List.replicate_succ' (n := i), List.append_assoc]
        rfl
      rw [← e1]; exact hO5
    · have : i = n.ends[v].length := by omega
      subst this
      rw [Nat.sub_self, List.replicate_zero, List.append_nil] at hO4
      refine RUN_lit1 (α := Sl) slt_rows r1 rfl (by decide) fun y w5 hE5 hO5 => ?_
      have hE25 := hE4.trans hE5
      have hO4' := hO4.ext hE5
      refine RUN_append_rowD (α := Int) slt_rows (by decide) (hR.ext hE25) (hE2.trans hE25).size_le (hO4'.low hz2) (hR.fresh hO4' (Nat.le_refl _)) hO5 (by simp [hml]; omega) (by simp [hml, maxLen]; omega) fun out' w6 hR6 hs6 => ?_
      refine IN2_next (by omega) hv' ⟨hs6.ext0 (hE2.trans hE25) (fun k hk => ((hR.ext hE25).own.blk k hk).1), ss ++ [r1], ?_⟩
      have e1 : (emptyM n.ends).take (v + 1) = (emptyM n.ends).take v ++ [List.replicate n.ends[v].length (-1)] := by
        rw [List.take_succ_eq_append_getElem (by omega)]; simp [emptyM]
      rw [e1]; exact hR6
  · have : v = n.ends.length := by omega
    subst this
    rw [← hml, List.take_length] at hR
    exact ⟨hE.trans hE2, ss, hR.low hE.size_le⟩

/-! ### The two walks -/

/-- What is known of an edge's two ends. -/
theorem edge_cells {n : Net} (hg : Good n) {M : List (List Int)} (hM : SameRows n.ends M) {q : Edge} (hq : q ∈ edgesOf n.ends) :
    ∃ v i x y : Nat, q = ((v : Int), (i : Int), (x : Int), (y : Int)) ∧ ∃ (hv : v < M.length) (hx : x < M.length), i < M[v].length ∧ y < M[x].length := by
  obtain ⟨v, i, x, y, rfl, hp, hb, hv, hx, _, _⟩ := edge_at hg hq
  obtain ⟨_, hi, _⟩ := port_some hp
  obtain ⟨_, hy, _⟩ := port_some hb
  have hvM : v < M.length := by rw [hM.1]; exact hv
  have hxM : x < M.length := by rw [hM.1]; exact hx
  have h1 := hM.2 v hvM
  have h2 := hM.2 x hxM
  rw [rowD hvM, rowD hv] at h1
  rw [rowD hxM, rowD hx] at h2
  exact ⟨v, i, x, y, rfl, hvM, hxM, by omega, by omega⟩

theorem colE_get {M : List (List Int)} {v i x y : Nat} (hv : v < M.length) (hx : x < M.length) : colE M ((v : Int), (i : Int), (x : Int), (y : Int)) = mex (M[v] ++ M[x]) := by
  unfold colE; simp only [Int.toNat_natCast]; rw [rowD hv, rowD hx]

/-- A store into a row. -/
theorem store1 {w : World} {base : Nat} {s : Sl} {M : List (List Int)} {ss : List Sl} (h : RowsD w base T.t_int T.t_sl_int s M ss) {v i : Nat} (hv : v < M.length) (hi : i < M[v].length) {r1 : Sl} (h1 : ss[v]? = some r1) {c : Int} {p : Addr} (hp : Plc r1 i 1 p) {K : World → Prop}
    (hk : ∀ w1, Step w w1 r1.v.ownBlock → RowsD w1 base T.t_int T.t_sl_int s (M.set v (M[v].set i c)) ss → K w1) : GX.ST p 0 [.int .i64 c] w K := by
  have hO1 := h.row v r1 M[v] h1 (by simp [hv])
  exact ST_own hO1 hi hp c rfl fun w1 hO1' hs1 => hk w1 hs1 (h.chg (by decide) h1 hO1' hs1)

theorem stepC_two {M : List (List Int)} {v i x y : Nat} (hv : v < M.length) (hx : x < M.length) (hy : y < M[x].length) {c : Nat} (hc : c = colE M ((v : Int), (i : Int), (x : Int), (y : Int))) :
    ∃ (hxl : x < (M.set v (M[v].set i (c : Int))).length), y < ((M.set v (M[v].set i (c : Int)))[x]'hxl).length ∧ stepC M ((v : Int), (i : Int), (x : Int), (y : Int)) = (M.set v (M[v].set i (c : Int))).set x (((M.set v (M[v].set i (c : Int)))[x]'hxl).set y (c : Int)) := by
  subst hc
  have hxl : x < (M.set v (M[v].set i (colE M ((v : Int), (i : Int), (x : Int), (y : Int)) : Int))).length := by simpa using hx
  refine ⟨hxl, ?_, ?_⟩
  · rw [List.getElem_set]
    split
    · rename_i hvx; subst hvx; simpa using hy
    · exact hy
  · unfold stepC
    simp only [Int.toNat_natCast]
    rw [set2_get hv, set2_get hxl]

theorem isLoop_ok (q : Edge) (w : World) : Calls Try.prog F.i_edge_isLoop (argsQ q) w (Ret [.at .bool] fun (b : Bool) w' => b = Looped q ∧ Ext w w') := by
  refine C_i_edge_isLoop ?_
  unfold V_i_edge_isLoop
  refine NEW_intro fun p w1 hp hs hE hb => LD_bi0 hb (LD_bi2 hb ?_)
  refine cond_eq (fun h1 => LD_bi1 hb (LD_bi3 hb ⟨by simp [Looped, h1], hE⟩)) (fun h1 => ⟨by simp [Looped, h1], hE⟩)

theorem GreedyEdgeColouring_ok {w : World} {a b c : Sl} {n : Net} (h : RNet w a b c n) (hn : Small n) :
    Calls Try.prog F.i_GreedyEdgeColouring #[.agg #[a.v, b.v, c.v]] w (Ret [.at .sl, .at .bool] fun (r : Sl) (y : Bool) w' => Ext w w' ∧ ∃ m, OutM w.heap.size w' r m ∧ AnsG (Good n ∧ NoLoops n.ends) (greedyC n.ends (edgesOf n.ends)) [] m y) := by
  refine C_i_GreedyEdgeColouring ?_
  unfold V_i_GreedyEdgeColouring
  refine NEW_intro fun p w1 hp hs hE hb1 => LD_box3 hb1 ?_
  replace h := h.ext hE
  refine call (isNetwork_ok h hn.2.2.1) ?_
  rintro x w2 ⟨hx, hE2⟩
  replace h := h.ext hE2
  replace hb1 := hb1.ext hE2
  replace hE := hE.ext hE2
  refine cond_not (fun hf => ⟨hE, [], OutM.nil _ _, .no fun hg => ?_⟩) (fun ht => ?_)
  · rw [hx.2 hg.1] at hf; cases hf
  have hg := hx.1 ht
  have h40 := hg.size.2
  refine LD_box3 hb1 ?_
  refine call (edges_ok h hg) ?_
  rintro r3 w3 ⟨hE3, hO3⟩
  replace h := h.ext hE3
  replace hb1 := hb1.ext hE3
  replace hE := hE.ext hE3
  refine call (containsFuncQ_ok (hO3.rep (edge_I64 hg)).any (p := Looped) fun q hq w' hw' => CALLV_mk (by kernel_rfl) (by simpa using isLoop_ok q w')) ?_
  rintro z w4 ⟨hz, hE4⟩
  replace h := h.ext hE4
  replace hb1 := hb1.ext hE4
  replace hE := hE.ext hE4
  refine cond_b (fun ht => ⟨hE, [], OutM.nil _ _, .no fun hg => ?_⟩) (fun hf => ?_)
  · have h7 := hg.2; unfold NoLoops at h7; rw [hz, h7] at ht; cases ht
  have hNL : NoLoops n.ends := by unfold NoLoops; rw [← hz]; exact hf
  unfold V_i_GreedyEdgeColouring_k1
  refine LD_box3 hb1 ?_
  refine call (unlabeled_ok h hg) ?_
  rintro s w5 ⟨hE5, ss, hR5⟩
  have h4s := hE.size_le
  replace h := h.ext hE5
  replace hb1 := hb1.ext hE5
  replace hE := hE.ext hE5
  refine LD_box3 hb1 ?_
  refine call (edges_ok h hg) ?_
  rintro r6 w6 ⟨hE6, hO6⟩
  replace h := h.ext hE6
  replace hb1 := hb1.ext hE6
  replace hE := hE.ext hE6
  replace hR5 := hR5.ext hE6
  rw [hO6.1]
  have hel := edgesTo_len hg n.ends.length (Nat.le_refl _)
  have hel2 : (edgesOf n.ends).length ≤ 240 := by unfold edgesOf; omega
  refine ⟨IN (edgesOf n.ends).length fun i w' => Ext w w' ∧ OwnL w' w5.heap.size T.t_i_edge r6 (edgesOf n.ends) ∧ RowsD w' w4.heap.size T.t_int T.t_sl_int s (greedyC n.ends ((edgesOf n.ends).take i)) ss, MN (edgesOf n.ends).length, IN_zero ⟨hE, hO6, by simpa [greedyC] using hR5⟩, ?_⟩
  rintro _ w7 ⟨i, rfl, hi, hE7, hO7, hR7⟩
  intros
  have hMr := greedyC_rows n.ends ((edgesOf n.ends).take i)
  have hMc := greedyC_cells hg ((edgesOf n.ends).take i)
  refine cond_dec (fun hlt => ?_) (fun hge => ?_)
  · have hi' : i < (edgesOf n.ends).length := by omega
    have hsn : greedyC n.ends ((edgesOf n.ends).take (i + 1)) = stepC (greedyC n.ends ((edgesOf n.ends).take i)) (edgesOf n.ends)[i] := by
      rw [List.take_succ_eq_append_getElem hi', greedyC_snoc]
    generalize greedyC n.ends ((edgesOf n.ends).take i) = M at *
    obtain ⟨v, pi, x, y, hq, hv, hx, hpi, hy⟩ := edge_cells hg hMr (List.getElem_mem hi')
    refine (hO7.rep (edge_I64 hg)).any.ixQ hi' fun qa hc0 hc1 hc2 hc3 => LD_int4 hc0 hc1 hc2 hc3 ?_
    rw [hq] at hsn ⊢
    refine NEW_ST (vs := [.int .i64 (v : Int), .int .i64 (pi : Int), .int .i64 (x : Int), .int .i64 (y : Int)]) (by intro u hu; simp at hu; rcases hu with rfl | rfl | rfl | rfl <;> rfl) rfl fun pe w8 hpe hE8 hbe => ?_
    replace hE7 := hE7.ext hE8
    replace hO7 := hO7.ext hE8
    replace hR7 := hR7.ext hE8
    intro w9 hE9 _
    replace hE7 := hE7.ext hE9
    replace hO7 := hO7.ext hE9
    replace hR7 := hR7.ext hE9
    replace hbe := hbe.ext hE9
    refine LD_bi0 hbe ?_
    refine hR7.ix hv fun pa ra hra hOa hca _ => LD_sl hca ⟨Ext.refl _, LD_bi2 hbe ⟨Ext.refl _, hR7.ix hx fun pb rb hrb hOb hcb _ => ⟨Ext.refl _, LD_sl hcb ⟨Ext.refl _, ?_⟩⟩⟩⟩
    refine RUN_lits2 slt_rows ra rb fun y35 w12 hE12 hO12 => ⟨hE12, ?_⟩
    have hMv := hMc M[v] (List.getElem_mem hv)
    have hMx := hMc M[x] (List.getElem_mem hx)
    have hrep : R w12 y35 [M[v], M[x]] := OwnL.rows hO12 rfl (fun k h1 h2 => by
      match k, h1, h2 with
      | 0, _, _ => exact ((hOa.ext hE12).rep (hMc.I64 _ (List.getElem_mem hv))).any
      | 1, _, _ => exact ((hOb.ext hE12).rep (hMc.I64 _ (List.getElem_mem hx))).any) (fun _ _ => trivial)
    refine call (concat_ok hrep (by simp) (by intro r hr; simp at hr; rcases hr with rfl | rfl <;> omega)) ?_
    rintro y36 w13 ⟨hE13, hO13⟩
    refine ⟨hE12.trans hE13, ?_⟩
    have hRc := (hO13.rep (by intro z hz; simp at hz; rcases hz with h1 | h1; exact hMc.I64 _ (List.getElem_mem hv) _ h1; exact hMc.I64 _ (List.getElem_mem hx) _ h1)).any
    refine call (leastFree_ok hRc) ?_
    rintro _ _ ⟨rfl, rfl⟩
    refine ⟨hE12.trans hE13, ?_⟩
    have hcol : mex ([M[v], M[x]].flatten) = colE M ((v : Int), (pi : Int), (x : Int), (y : Int)) := by rw [colE_get hv hx]; simp
    rw [hcol]
    intro w15 hE15 _
    have hEE := (hE12.trans hE13).trans hE15
    replace hE7 := hE7.ext hEE
    replace hO7 := hO7.ext hEE
    replace hR7 := hR7.ext hEE
    replace hbe := hbe.ext hEE
    replace hOa := hOa.ext hEE
    replace hOb := hOb.ext hEE
    refine ⟨fun k => oB ra k ∨ oB rb k, ?_⟩
    have hnb : ¬ (oB ra pe.block ∨ oB rb pe.block) := fun hh => hh.elim (hbe.notOwn hOa (by decide)) (hbe.notOwn hOb (by decide))
    have hns : ∀ k, s.v.ownBlock = some k → ¬ (oB ra k ∨ oB rb k) := fun k hk hh => hh.elim (fun h1 => hR7.block_ne (by decide) hra h1 hk) (fun h1 => hR7.block_ne (by decide) hrb h1 hk)
    refine ⟨by rw [add_block]; exact hnb, LD_bi0 hbe ?_⟩
    refine hR7.ix hv fun pa' ra' hra' hOa' hca' hba' => ⟨hns _ hba', LD_sl hca' ?_⟩
    rw [hra] at hra'; cases hra'
    refine ⟨by rw [add_block]; exact hnb, LD_bi1 hbe ⟨by rw [add_block]; exact hnb, LD_bi2 hbe ?_⟩⟩
    refine hR7.ix hx fun pb' rb' hrb' hOb' hcb' hbb' => ⟨hns _ hbb', LD_sl hcb' ?_⟩
    rw [hrb] at hrb'; cases hrb'
    refine ⟨by rw [add_block]; exact hnb, LD_bi3 hbe ?_⟩
    refine IX_own hOa' hpi rfl fun p1 hp1 => ⟨Chg.refl _ _, ?_⟩
    obtain ⟨hxl, hyl, hst2⟩ := stepC_two (i := pi) hv hx hy rfl
    refine store1 hR7 hv hpi hra hp1 fun w16 hs16 hR16 => ⟨.of_step hs16 fun k hk => .inl hk, ?_⟩
    have hO16 := hR16.row x rb _ hrb (List.getElem?_eq_getElem hxl)
    refine IX_own hO16 hyl rfl fun p2 hp2 => store1 hR16 hxl hyl hrb hp2 fun w17 hs17 hR17 => ?_
    rw [← hst2] at hR17
    have hlow := fun k hk => (hOa.blk k hk).1
    have hlow2 := fun k hk => (hOb.blk k hk).1
    refine IN_next (by omega) hi' ⟨hs17.ext0 (hs16.ext0 hE7 fun k hk => Nat.le_trans h4s (hlow k hk)) fun k hk => Nat.le_trans h4s (hlow2 k hk), ?_, by rw [hsn]; exact hR17⟩
    exact (hO7.step hOa (by decide) hs16).step hO16 (by decide) hs17
  · have : i = (edgesOf n.ends).length := by omega
    subst this
    rw [List.take_length] at hR7 hMr hMc
    refine ⟨hE7, _, ⟨⟨ss, hR7.low h4s⟩, hMc.I64, by rw [hMr.1]; omega, fun r hr => by have := (hMc r hr).1; omega⟩, .yes ⟨hg, hNL⟩⟩

theorem looped_four {v i x y : Nat} : Looped ((v : Int), (i : Int), (x : Int), (y : Int)) = true ↔ v = x ∧ i ≠ y := by
  unfold Looped
  simp only [Bool.and_eq_true, beq_iff_eq, bne_iff_ne, ne_eq]
  omega

theorem sGreedyEdgeColouring_ok {w : World} {a b c : Sl} {n : Net} (h : RNet w a b c n) :
    Calls Try.prog F.s_GreedyEdgeColouring #[.agg #[a.v, b.v, c.v]] w (Ret [.at .sl, .at .bool] fun (r : Sl) (y : Bool) w' => Ext w w' ∧ ∃ m, R w' r m ∧ AnsG (Good n ∧ NoLoops n.ends) (greedyC n.ends (edgesOf n.ends)) [] m y) := by
  refine C_s_GreedyEdgeColouring ?_
  unfold V_s_GreedyEdgeColouring
  refine NEW_intro fun p w1 hp hs hE hb1 => LD_box3 hb1 ?_
  replace h := h.ext hE
  refine call (neGood_ok h) ?_
  rintro x w2 ⟨hx, hE2⟩
  replace h := h.ext hE2
  replace hb1 := hb1.ext hE2
  replace hE := hE.ext hE2
  refine cond_not (fun hf => ⟨hE, [], (OutM.nil 0 _).rep, .no fun hg => ?_⟩) (fun ht => ?_)
  · rw [hx.2 hg.1] at hf; cases hf
  have hg := hx.1 ht
  have h40 := hg.size.2
  refine LD_box3 hb1 ?_
  refine call (soEmpty_ok h hg) ?_
  rintro s w3 ⟨hE3, ss, hR3⟩
  have h2s := hE.size_le
  have hss : ∀ (j : Nat) (q : Sl), ss[j]? = some q → ∀ k, q.v.ownBlock = some k → k < w3.heap.size := fun j q hq k hk => by
    have hj : j < (emptyM n.ends).length := by rw [← hR3.len]; exact (List.getElem?_eq_some_iff.1 hq).1
    exact ((hR3.row j q _ hq (List.getElem?_eq_getElem hj)).blk k hk).2
  replace h := h.ext hE3
  replace hb1 := hb1.ext hE3
  replace hE := hE.ext hE3
  refine LD_box3 hb1 ?_
  refine call (neEdges_ok h hg) ?_
  rintro r4 w4 ⟨hE4, hO4⟩
  replace h := h.ext hE4
  replace hb1 := hb1.ext hE4
  replace hE := hE.ext hE4
  replace hR3 := hR3.ext hE4
  have hL4 := hO4.repD (four_ok hg)
  have hlen4 : ((edgesOf n.ends).map four).length = (edgesOf n.ends).length := by simp
  have hel := edgesTo_len hg n.ends.length (Nat.le_refl _)
  have hel2 : (edgesOf n.ends).length ≤ 240 := by unfold edgesOf; omega
  rw [hL4.len, hlen4]
  refine ⟨IN (edgesOf n.ends).length fun i w' => Ext w w' ∧ SlR (fun b => w3.heap.size ≤ b) w' r4 ((edgesOf n.ends).map four) ∧ RowsD w' w2.heap.size T.t_int T.t_sl_int s (greedyC n.ends ((edgesOf n.ends).take i)) ss ∧ ∀ q ∈ (edgesOf n.ends).take i, Looped q = false, MN (edgesOf n.ends).length, IN_zero ⟨hE, hL4, by simpa [greedyC] using hR3, by simp⟩, ?_⟩
  rintro _ w5 ⟨i, rfl, hi, hE5, hL5, hR5, hN5⟩
  intros
  have hMr := greedyC_rows n.ends ((edgesOf n.ends).take i)
  have hMc := greedyC_cells hg ((edgesOf n.ends).take i)
  refine cond_dec (fun hlt => ?_) (fun hge => ?_)
  · have hi' : i < (edgesOf n.ends).length := by omega
    have hsn : greedyC n.ends ((edgesOf n.ends).take (i + 1)) = stepC (greedyC n.ends ((edgesOf n.ends).take i)) (edgesOf n.ends)[i] := by
      rw [List.take_succ_eq_append_getElem hi', greedyC_snoc]
    generalize greedyC n.ends ((edgesOf n.ends).take i) = M at *
    have hmem : (edgesOf n.ends)[i] ∈ edgesOf n.ends := List.getElem_mem hi'
    obtain ⟨v, pi, x, y, hq, hv, hx, hpi, hy⟩ := edge_cells hg hMr hmem
    refine hL5.ixL (by rw [hlen4]; exact hi') fun qa r19 hR19 hc => LD_sl hc ?_
    have h4 : ((edgesOf n.ends).map four)[i]'(by rw [hlen4]; exact hi') = [(v : Int), (pi : Int), (x : Int), (y : Int)] := by simp [hq, four]
    rw [h4] at hR19
    have hA : Looped (edgesOf n.ends)[i] = false → ∀ w8, Ext w5 w8 → V_s_GreedyEdgeColouring_k5 (IN (edgesOf n.ends).length fun i w' => Ext w w' ∧ SlR (fun b => w3.heap.size ≤ b) w' r4 ((edgesOf n.ends).map four) ∧ RowsD w' w2.heap.size T.t_int T.t_sl_int s (greedyC n.ends ((edgesOf n.ends).take i)) ss ∧ ∀ q ∈ (edgesOf n.ends).take i, Looped q = false) (MN (edgesOf n.ends).length) (i : Int) w5 s r19 w8 := by
      intro hnl w8 hE8
      unfold V_s_GreedyEdgeColouring_k5
      intro w9 hE9 _
      have hEE := hE8.trans hE9
      replace hE5 := hE5.ext hEE
      replace hL5 := hL5.ext hEE
      replace hR5 := hR5.ext hEE
      replace hR19 := hR19.ext hEE
      refine ⟨fun _ => False, ?_⟩
      refine hR19.ixI (i := 0) (by simp) fun q0 _ hc0 => ⟨not_false, LD_int hc0 ?_⟩
      refine hR5.ix hv fun pa ra hra hOa hca _ => ⟨not_false, LD_sl hca ?_⟩
      refine hR19.ixI (i := 2) (by simp) fun q0 _ hc0 => ⟨not_false, LD_int hc0 ?_⟩
      refine hR5.ix hx fun pb rb hrb hOb hcb _ => ⟨not_false, LD_sl hcb ?_⟩
      have hMv := hMc M[v] (List.getElem_mem hv)
      have hMx := hMc M[x] (List.getElem_mem hx)
      have hRa := (hOa.rep (hMc.I64 _ (List.getElem_mem hv))).any
      have hRb := (hOb.rep (hMc.I64 _ (List.getElem_mem hx))).any
      refine call (l1Own_ok hRa (by omega)) ?_
      rintro r10 w10 ⟨hE10, hO10⟩
      refine ⟨.of_ext hE10, ?_⟩
      refine RUN_append (α := Int) slt_int hO10 hE10.size_le (hRb.ext hE10) (by omega) (by unfold maxLen; omega) fun r11 w11 hO11 hs11 => ?_
      have hE11 := hs11.ext0 hE10 (fun k hk => (hO10.blk k hk).1)
      refine ⟨.of_ext hE11, ?_⟩
      have hR11 := (hO11.rep (by intro z hz; rcases List.mem_append.1 hz with h1 | h1; exact hMc.I64 _ (List.getElem_mem hv) _ h1; exact hMc.I64 _ (List.getElem_mem hx) _ h1)).any
      refine call (clLeast_ok hR11) ?_
      rintro _ _ ⟨rfl, rfl⟩
      refine ⟨.of_ext hE11, ?_⟩
      rw [← colE_get hv hx (i := pi) (y := y)]
      intro w13 hE13 _
      have hEE := hE11.trans hE13
      replace hE5 := hE5.ext hEE
      replace hL5 := hL5.ext hEE
      replace hR5 := hR5.ext hEE
      replace hR19 := hR19.ext hEE
      replace hOa := hOa.ext hEE
      replace hOb := hOb.ext hEE
      have hns : ∀ k, s.v.ownBlock = some k → ¬ oB ra k := fun k hk h1 => hR5.block_ne (by decide) hra h1 hk
      have hns2 : ∀ k, s.v.ownBlock = some k → ¬ oB rb k := fun k hk h1 => hR5.block_ne (by decide) hrb h1 hk
      have hq19 : ∀ (j : Nat) (hj : j < 4) {K : Addr → Prop}, (∀ p, ¬ oB ra p.block → ¬ oB rb p.block → w13.cell? p = some (.int .i64 ([(v : Int), (pi : Int), (x : Int), (y : Int)][j]'hj)) → K p) → IX r19 (j : Int) 1 K := fun j hj K hk => by
        obtain ⟨a', cs, ha', hD', hrep, hc'⟩ := hR19.2.2 j _ (List.getElem?_eq_getElem (l := [(v : Int), (pi : Int), (x : Int), (y : Int)]) hj)
        obtain ⟨rfl, _⟩ := hrep
        refine ⟨a', ha', by omega, by rw [hR19.len]; exact_mod_cast hj, hk _ ?_ ?_ ?_⟩
        · rw [add_block]; intro hh; have := hss v ra hra _ hh; omega
        · rw [add_block]; intro hh; have := hss x rb hrb _ hh; omega
        · exact hc' 0 _ rfl
      refine ⟨oB ra, ?_⟩
      refine hq19 0 (by decide) fun q0 hd0 _ hc0 => ⟨hd0, LD_int hc0 ?_⟩
      refine hR5.ix hv fun pa' ra' hra' hOa' hca' hba' => ⟨hns _ hba', LD_sl hca' ?_⟩
      rw [hra] at hra'; cases hra'
      refine hq19 1 (by decide) fun q0 hd0 _ hc0 => ⟨hd0, LD_int hc0 ⟨Chg.refl _ _, ?_⟩⟩
      refine IX_own hOa' hpi rfl fun p1 hp1 => ?_
      obtain ⟨hxl, hyl, hst2⟩ := stepC_two (i := pi) hv hx hy rfl
      refine store1 hR5 hv hpi hra hp1 fun w14 hs14 hR14 => ?_
      intro w15 hE15 _
      have hE14 := hs14.ext0 hE5 fun k hk => Nat.le_trans h2s (hOa.blk k hk).1
      have hL14 := hL5.stepD hs14 fun b hb he => by have := hss v ra hra _ he; omega
      have hR19' := hR19.stepD hs14 fun b hb he => by have := hss v ra hra _ he; omega
      replace hE14 := hE14.ext hE15
      replace hL14 := hL14.ext hE15
      replace hR14 := hR14.ext hE15
      replace hR19' := hR19'.ext hE15
      have hq19' : ∀ (j : Nat) (hj : j < 4) {K : Addr → Prop}, (∀ p, ¬ oB rb p.block → w15.cell? p = some (.int .i64 ([(v : Int), (pi : Int), (x : Int), (y : Int)][j]'hj)) → K p) → IX r19 (j : Int) 1 K := fun j hj K hk => by
        obtain ⟨a', cs, ha', hD', hrep, hc'⟩ := hR19'.2.2 j _ (List.getElem?_eq_getElem (l := [(v : Int), (pi : Int), (x : Int), (y : Int)]) hj)
        obtain ⟨rfl, _⟩ := hrep
        refine ⟨a', ha', by omega, by rw [hR19'.len]; exact_mod_cast hj, hk _ ?_ ?_⟩
        · rw [add_block]; intro hh; have := hss x rb hrb _ hh; omega
        · exact hc' 0 _ rfl
      refine ⟨oB rb, ?_⟩
      refine hq19' 2 (by decide) fun q0 hd0 hc0 => ⟨hd0, LD_int hc0 ?_⟩
      refine hR14.ix hxl fun pb' rb' hrb' hOb' hcb' hbb' => ⟨fun h1 => hR14.block_ne (by decide) hrb h1 hbb', LD_sl hcb' ?_⟩
      rw [hrb] at hrb'; cases hrb'
      refine hq19' 3 (by decide) fun q0 hd0 hc0 => ⟨hd0, LD_int hc0 ⟨Chg.refl _ _, ?_⟩⟩
      refine IX_own hOb' hyl rfl fun p2 hp2 => store1 hR14 hxl hyl hrb hp2 fun w17 hs17 hR17 => ?_
      rw [← hst2] at hR17
      refine IN_next (by omega) hi' ⟨hs17.ext0 hE14 (fun k hk => Nat.le_trans h2s (hOb'.blk k hk).1), hL14.stepD hs17 (fun b hb he => by have := hss x rb hrb _ he; omega), by rw [hsn, hq]; exact hR17, fun q hqm => ?_⟩
      rw [List.take_succ_eq_append_getElem hi'] at hqm
      rcases List.mem_append.1 hqm with h1 | h1
      · exact hN5 q h1
      · rw [List.mem_singleton.1 h1]; exact hnl
    refine (hR19.any).ixI (i := 0) (by simp) fun q0 _ hc0 => LD_int hc0 ?_
    refine (hR19.any).ixI (i := 2) (by simp) fun q0 _ hc0 => LD_int hc0 ?_
    refine cond_eq (fun h1 => ?_) (fun h1 w7 hE7 => hA (by rw [hq]; rw [Bool.eq_false_iff]; intro hh; have := (looped_four.1 hh).1; simp at h1; omega) w7 hE7)
    refine (hR19.any).ixI (i := 1) (by simp) fun q0 _ hc0 => LD_int hc0 ?_
    refine (hR19.any).ixI (i := 3) (by simp) fun q0 _ hc0 => LD_int hc0 ?_
    intro w6 hE6
    simp at h1
    refine cond_ne (fun h2 => ⟨hE5.trans hE6, [], (OutM.nil 0 _).rep, .no fun hgn => ?_⟩) (fun h2 => hA (by rw [hq]; rw [Bool.eq_false_iff]; intro hh; have := (looped_four.1 hh).2; simp at h2; omega) w6 hE6)
    simp at h2
    have := hgn.2
    unfold NoLoops at this
    rw [List.any_eq_false] at this
    have h3 := this _ hmem
    rw [hq] at h3
    exact h3 (looped_four.2 ⟨by omega, by omega⟩)
  · have : i = (edgesOf n.ends).length := by omega
    subst this
    rw [List.take_length] at hR5 hMr hMc hN5
    exact ⟨hE5, _, hR5.rep hMc.I64, .yes ⟨hg, by unfold NoLoops; rw [List.any_eq_false]; intro q hq; rw [hN5 q hq]; simp⟩⟩

end Go.Proofs.Ytknnjkmggenliaa
