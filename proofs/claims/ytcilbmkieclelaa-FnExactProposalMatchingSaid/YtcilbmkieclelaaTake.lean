/- Matchings that are built edge by edge: GreedyMatching, both sides. -/
import Derived.Test.YtcilbmkieclelaaMax
import Derived.Test.YtcilbmkieclelaaMark
import Derived.Test.YtcilbmkieclelaaDelete
namespace Go.Proofs.Ytcilbmkieclelaa
open Go.GX Go.RowKit
set_option maxRecDepth 100000



/-- An edge is taken. -/
def putE (m : List Int) (q : Edge) : List Int := (m.set q.1.toNat q.2.1).set q.2.2.1.toNat q.2.2.2
def takeE (m : List Int) (q : Edge) : List Int := if FreeEdge m q then putE m q else m
def greedyM (E : Ends) (l : List Edge) : List Int := l.foldl takeE (List.replicate E.length (-1))

theorem putE_len (m : List Int) (q : Edge) : (putE m q).length = m.length := by simp [putE]
theorem takeE_len (m : List Int) (q : Edge) : (takeE m q).length = m.length := by unfold takeE; split <;> simp [putE]
theorem greedyM_len (E : Ends) (l : List Edge) : (greedyM E l).length = E.length := by
  unfold greedyM
  have : ∀ m : List Int, (l.foldl takeE m).length = m.length := by
    induction l with
    | nil => intro m; rfl
    | cons q r ih => intro m; rw [List.foldl_cons, ih, takeE_len]
  rw [this]; simp
theorem greedyM_snoc (E : Ends) (l : List Edge) (q : Edge) : greedyM E (l ++ [q]) = takeE (greedyM E l) q := by simp [greedyM]

theorem putE_all {m : List Int} {q : Edge} {p : Int → Prop} (h : ∀ x ∈ m, p x) (h1 : p q.2.1) (h2 : p q.2.2.2) : ∀ x ∈ putE m q, p x := fun x hx => by
  rcases List.mem_or_eq_of_mem_set hx with h3 | h3
  · rcases List.mem_or_eq_of_mem_set h3 with h4 | h4
    · exact h x h4
    · rw [h4]; exact h1
  · rw [h3]; exact h2

theorem greedyM_all {E : Ends} {l : List Edge} {p : Int → Prop} (h0 : p (-1)) (h : ∀ q ∈ l, p q.2.1 ∧ p q.2.2.2) : ∀ x ∈ greedyM E l, p x := by
  unfold greedyM
  have : ∀ m : List Int, (∀ x ∈ m, p x) → ∀ x ∈ l.foldl takeE m, p x := by
    induction l with
    | nil => intro m hm; exact hm
    | cons q r ih =>
      intro m hm
      refine ih (fun q hq => h q (by simp [hq])) _ ?_
      unfold takeE
      split
      · exact putE_all hm (h q (by simp)).1 (h q (by simp)).2
      · exact hm
  exact this _ fun x hx => by rw [List.eq_of_mem_replicate hx]; exact h0

theorem greedyM_I64 {n : Net} (hg : Good n) {l : List Edge} (h : ∀ q ∈ l, q ∈ edgesOf n.ends) : ∀ x ∈ greedyM n.ends l, I64 x :=
  greedyM_all ⟨by decide, by decide⟩ fun q hq => ⟨(edge_I64 hg q (h q hq)).2.1, (edge_I64 hg q (h q hq)).2.2.2⟩

theorem free_iff {m : List Int} {v i x y : Nat} (hv : v < m.length) (hx : x < m.length) : FreeEdge m ((v : Int), (i : Int), (x : Int), (y : Int)) ↔ (v : Int) ≠ x ∧ m[v] < 0 ∧ m[x] < 0 := by
  unfold FreeEdge
  simp [hv, hx]

theorem GreedyMatching_ok {w : World} {a b c : Sl} {n : Net} (h : RNet w a b c n) (hn : Small n) :
    Calls Try.prog F.i_GreedyMatching #[.agg #[a.v, b.v, c.v]] w (Ret [.at .sl, .at .bool] fun (r : Sl) (y : Bool) w' => Ext w w' ∧ ∃ m, OutL w.heap.size w' r m ∧ AnsG (Good n) (greedyM n.ends (edgesOf n.ends)) [] m y) := by
  refine C_i_GreedyMatching ?_
  unfold V_i_GreedyMatching
  refine NEW_intro fun p w1 hp hs hE hb1 => LD_box3 hb1 ?_
  replace h := h.ext hE
  refine call (isNetwork_ok h hn.2.2.1) ?_
  rintro x w2 ⟨hx, hE2⟩
  replace h := h.ext hE2
  replace hb1 := hb1.ext hE2
  replace hE := hE.ext hE2
  refine cond_not (fun hf => ⟨hE, [], OutL.nil _ _, .no fun hg => ?_⟩) (fun ht => ?_)
  · rw [hx.2 hg] at hf; cases hf
  have hg := hx.1 ht
  have h40 := hg.size.2
  refine LD_box3 hb1 ?_
  refine call (noMatching_ok h (by omega)) ?_
  rintro m w3 ⟨hE3, hO3⟩
  replace h := h.ext hE3
  replace hb1 := hb1.ext hE3
  refine LD_box3 hb1 ?_
  refine call (edges_ok h hg) ?_
  rintro es w4 ⟨hE4, hOe⟩
  have hRe := hOe.rep (edge_I64 hg)
  have hm3 := hO3.blk
  replace hO3 := hO3.ext hE4
  have hE24 := hE3.trans hE4
  rw [hRe.len]
  refine ⟨IN (edgesOf n.ends).length fun i w' => Chg w4 w' (oB m) ∧ OwnL w' w2.heap.size T.t_int m (greedyM n.ends ((edgesOf n.ends).take i)), MN (edgesOf n.ends).length, IN_zero ⟨Chg.refl _ _, by simpa [greedyM] using hO3⟩, ?_⟩
  rintro _ w5 ⟨i, rfl, hi, hC, hO⟩
  intros
  refine cond_dec (fun hlt => ?_) (fun hge => ?_)
  · have hi' : i < (edgesOf n.ends).length := by omega
    have hq := List.getElem_mem hi'
    have hsn : greedyM n.ends ((edgesOf n.ends).take (i + 1)) = takeE (greedyM n.ends ((edgesOf n.ends).take i)) (edgesOf n.ends)[i] := by
      rw [List.take_succ_eq_append_getElem hi', greedyM_snoc]
    have hok := greedyM_I64 hg (l := (edgesOf n.ends).take i) (fun q hq => List.mem_of_mem_take hq)
    have hml := greedyM_len n.ends ((edgesOf n.ends).take i)
    generalize hM : greedyM n.ends ((edgesOf n.ends).take i) = M at *
    have hR5 := hRe.chg hC (fun b hb _ hD => by have := (hm3 b hD).2; omega)
    refine hR5.ixQ hi' fun q hc0 hc1 hc2 hc3 => LD_int4 hc0 hc1 hc2 hc3 ?_
    obtain ⟨v, j, x, y, hqe, _, _, hv, hxl, hj, hy⟩ := edge_at hg hq
    rw [hqe] at hsn ⊢
    have hlt5 : ∀ k, oB m k → k < w5.heap.size := fun k hk => (hO.blk k hk).2
    refine NEW_ST (by intro v hv; simp at hv; rcases hv with rfl | rfl | rfl | rfl <;> rfl) rfl fun pe w6 hpe hE6 hbe => ?_
    have hC6 := hC.trans (Chg.of_ext hE6)
    replace hO := hO.ext hE6
    have hRm := hO.rep hok
    have hvm : v < M.length := by omega
    have hxm : x < M.length := by omega
    have hskip : ¬ FreeEdge M ((v : Int), (j : Int), (x : Int), (y : Int)) → ∀ (I : Nat → World → Prop) (w' : World), (∀ {i}, I i = fun w' => Chg w4 w' (oB m) ∧ OwnL w' w2.heap.size T.t_int m (greedyM n.ends ((edgesOf n.ends).take i))) → Chg w4 w' (oB m) → OwnL w' w2.heap.size T.t_int m M → I (i + 1) w' := fun hf I w' hI h1 h2 => by
      rw [hI, hsn, takeE, if_neg hf]; exact ⟨h1, h2⟩
    refine LD_bi0 hbe (LD_bi2 hbe ?_)
    refine cond_ne (fun hne => ?_) (fun he => IN_next hRe.le hi' (hskip (fun hf => hf.1 he) _ _ rfl hC6 hO))
    refine LD_bi0 hbe ?_
    refine hRm.ixI hvm fun q _ hc => LD_int hc ?_
    refine cond_dec (fun hneg => ?_) (fun hnn => IN_next hRe.le hi' (hskip (fun hf => hnn ((free_iff hvm hxm).1 hf).2.1) _ _ rfl hC6 hO))
    refine LD_bi2 hbe ?_
    refine hRm.ixI hxm fun q _ hc => LD_int hc ?_
    refine cond_dec (fun hneg2 => ?_) (fun hnn => IN_next hRe.le hi' (hskip (fun hf => hnn ((free_iff hvm hxm).1 hf).2.2) _ _ rfl hC6 hO))
    intro w7 hE7 _
    have hC7 := hC6.trans (Chg.of_ext hE7)
    replace hO := hO.ext hE7
    replace hbe := hbe.ext hE7
    have hno : ∀ k, ¬ oB m (pe.add k).block := fun k hk => by rw [add_block] at hk; have := hlt5 _ hk; omega
    refine ⟨oB m, hno 0, LD_bi0 hbe ⟨hno 2, LD_bi2 hbe ⟨hno 1, LD_bi1 hbe ⟨hno 3, LD_bi3 hbe ?_⟩⟩⟩⟩
    refine IX_own hO hvm rfl fun q hq => ⟨Chg.refl _ _, ?_⟩
    refine ST_own hO hvm hq (j : Int) rfl fun w8 hO8 hs8 => ⟨.of_step hs8 fun k hk => hk, ?_⟩
    have hxm' : x < (M.set v (j : Int)).length := by simpa using hxm
    refine IX_own hO8 hxm' rfl fun q hq => ?_
    refine ST_own hO8 hxm' hq (y : Int) rfl fun w9 hO9 hs9 => ?_
    refine IN_next hRe.le hi' ⟨(hC7.trans (.of_step hs8 fun k hk => hk)).trans (.of_step hs9 fun k hk => hk), ?_⟩
    rw [hsn, takeE, if_pos ((free_iff hvm hxm).2 ⟨hne, hneg, hneg2⟩)]
    exact hO9
  · have : i = (edgesOf n.ends).length := by omega
    subst this
    rw [List.take_length] at hO
    have hE5 := hC.ext0 hE24 (fun k hk => (hm3 k hk).1)
    exact ⟨hE.trans hE5, _, ⟨hO.low hE.size_le, greedyM_I64 hg fun q hq => hq, by rw [greedyM_len]; omega⟩, .yes hg⟩

theorem mtTake_ok {w : World} {a b c s : Sl} {n : Net} {m : List Int} (h : RNet w a b c n) (hm : R w s m) (hlen : m.length = n.ends.length) (hsm : m.length ≤ 1048576) {v i x y : Nat} (hp : port n.ends v i = some ((x : Int), (y : Int))) (hx : x < n.ends.length) :
    Calls Try.prog F.s_mtTake #[.agg #[a.v, b.v, c.v], s.v, .int .i64 v, .int .i64 i] w (Ret [.at .sl] fun (r : Sl) w' => Ext w w' ∧ OwnL w' w.heap.size T.t_int r (putE m ((v : Int), (i : Int), (x : Int), (y : Int)))) := by
  obtain ⟨hv, hi, hee⟩ := port_some hp
  refine C_s_mtTake ?_
  unfold V_s_mtTake
  refine NEW_intro fun p w1 hp hs hE hb1 => ?_
  replace h := h.ext hE
  replace hm := hm.ext hE
  refine call (l1Own_ok hm hsm) ?_
  rintro r w2 ⟨hE2, hO⟩
  have hvm : v < m.length := by omega
  have hxm : x < (m.set v (i : Int)).length := by simp; omega
  refine IX_own hO hvm rfl fun q hq => ?_
  refine ST_own hO hvm hq (i : Int) rfl fun w3 hO3 hs3 => ?_
  have hE3 := hs3.ext0 hE2 (fun k hk => (hO.blk k hk).1)
  intro w4 hE4 _
  have hE14 := hE3.trans hE4
  have hb4 := hb1.ext hE14
  have h4 := h.ext hE14
  have hO4 := hO3.ext hE4
  have hpl : p.block < w2.heap.size := by have := hb1.lt; have := hE2.size_le; omega
  refine ⟨fun _ => False, fun hf => hf, LD_bs0 hb4 ?_⟩
  refine h4.1.ixL hv fun q s1 hR hc => ⟨fun hf => hf, LD_sl hc ?_⟩
  refine hR.ixE hi fun q _ _ hc0 hc1 => ?_
  rw [hee] at hc0 hc1
  refine ⟨fun hf => hf, LD_int hc0 ⟨fun hf => hf, LD_bs0 hb4 ?_⟩⟩
  refine h4.1.ixL hv fun q2 s2 hR2 hc2 => ⟨fun hf => hf, LD_sl hc2 ⟨Chg.refl _ _, ?_⟩⟩
  refine hR2.ixE hi fun q2 _ _ hd0 hd1 => ⟨Chg.refl _ _, Chg.refl _ _, ?_⟩
  rw [hee] at hd0 hd1
  refine LD_int hd1 ⟨Chg.refl _ _, ?_⟩
  refine IX_own hO4 hxm rfl fun q3 hq3 => ?_
  refine ST_own hO4 hxm hq3 (y : Int) rfl fun w5 hO5 hs5 => ?_
  exact ⟨hE.trans (hs5.ext0 hE14 (fun k hk => (hO4.blk k hk).1)), hO5.low hE.size_le⟩

theorem sGreedyMatching_ok {w : World} {a b c : Sl} {n : Net} (h : RNet w a b c n) :
    Calls Try.prog F.s_GreedyMatching #[.agg #[a.v, b.v, c.v]] w (Ret [.at .sl, .at .bool] fun (r : Sl) (y : Bool) w' => Ext w w' ∧ ∃ m, R w' r m ∧ AnsG (Good n) (greedyM n.ends (edgesOf n.ends)) [] m y) := by
  refine C_s_GreedyMatching ?_
  unfold V_s_GreedyMatching
  refine NEW_intro fun p w1 hp hs hE hb1 => LD_box3 hb1 ?_
  replace h := h.ext hE
  refine call (neGood_ok h) ?_
  rintro x w2 ⟨hx, hE2⟩
  replace h := h.ext hE2
  replace hb1 := hb1.ext hE2
  replace hE := hE.ext hE2
  refine cond_not (fun hf => ⟨hE, [], (OutL.nil 0 _).rep, .no fun hg => ?_⟩) (fun ht => ?_)
  · rw [hx.2 hg] at hf; cases hf
  have hg := hx.1 ht
  have h40 := hg.size.2
  refine LD_box3 hb1 ?_
  refine call (mtFree_ok h (by omega)) ?_
  rintro m0 w3 ⟨hE3, hO3⟩
  replace h := h.ext hE3
  replace hb1 := hb1.ext hE3
  replace hE := hE.ext hE3
  refine LD_box3 hb1 ?_
  refine call (neEdges_ok h hg) ?_
  rintro es w4 ⟨hE4, hOe⟩
  have hRe := hOe.rep (four_ok hg)
  replace hO3 := hO3.ext hE4
  replace h := h.ext hE4
  replace hb1 := hb1.ext hE4
  replace hE := hE.ext hE4
  rw [hRe.len, List.length_map]
  have hle := hRe.le
  rw [List.length_map] at hle
  refine ⟨IN2 (edgesOf n.ends).length fun i m w' => Ext w4 w' ∧ R w' m (greedyM n.ends ((edgesOf n.ends).take i)), MN2 (edgesOf n.ends).length, IN2_zero ⟨Ext.refl _, by
    have := (hO3.rep (by intro x hx; rw [List.eq_of_mem_replicate hx]; exact ⟨by decide, by decide⟩)).any
    simpa [greedyM] using this⟩, ?_⟩
  rintro m _ w5 ⟨i, rfl, hi, hE5, hm⟩
  intros
  refine cond_dec (fun hlt => ?_) (fun hge => ?_)
  · have hi' : i < (edgesOf n.ends).length := by omega
    have hq := List.getElem_mem hi'
    have hsn : greedyM n.ends ((edgesOf n.ends).take (i + 1)) = takeE (greedyM n.ends ((edgesOf n.ends).take i)) (edgesOf n.ends)[i] := by
      rw [List.take_succ_eq_append_getElem hi', greedyM_snoc]
    have hml := greedyM_len n.ends ((edgesOf n.ends).take i)
    have hok := greedyM_I64 hg (l := (edgesOf n.ends).take i) (fun q hq => List.mem_of_mem_take hq)
    generalize hM : greedyM n.ends ((edgesOf n.ends).take i) = M at *
    have hR5 := hRe.ext hE5
    refine hR5.ixL (i := i) (by simpa using hi') fun q s1 hR1 hc => LD_sl hc ?_
    rw [List.getElem_map] at hR1
    obtain ⟨v, j, x, y, hqe, hpv, _, hv, hxl, hj, hy⟩ := edge_at hg hq
    rw [hqe] at hsn hR1
    have hvm : v < M.length := by omega
    have hxm : x < M.length := by omega
    have hskip : ¬ FreeEdge M ((v : Int), (j : Int), (x : Int), (y : Int)) → ∀ w', Ext w5 w' → V_s_GreedyMatching_k4 (IN2 (edgesOf n.ends).length fun i m w' => Ext w4 w' ∧ R w' m (greedyM n.ends ((edgesOf n.ends).take i))) (MN2 (edgesOf n.ends).length) m (i : Int) w5 m w' := fun hf w' hE' => by
      unfold V_s_GreedyMatching_k4
      refine IN2_next hle hi' ⟨hE5.trans hE', ?_⟩
      rw [hsn, takeE, if_neg hf]; exact hm.ext hE'
    refine hR1.ixI (i := 0) (by simp [four]) fun q0 _ hc0 => LD_int hc0 ?_
    refine hR1.ixI (i := 2) (by simp [four]) fun q2 _ hc2 => LD_int hc2 ?_
    refine cond_ne (fun hne => ?_) (fun he w8 hE8 => hskip (fun hf => hf.1 (by simpa [four] using he)) w8 hE8)
    refine hR1.ixI (i := 0) (by simp [four]) fun q0 _ hc0 => LD_int hc0 ?_
    simp only [four, List.getElem_cons_zero]
    refine hm.ixI hvm fun q _ hc => LD_int hc ?_
    refine cond_dec (fun hneg => ?_) (fun hnn w7 hE7 => hskip (fun hf => hnn ((free_iff hvm hxm).1 hf).2.1) w7 hE7)
    refine hR1.ixI (i := 2) (by simp [four]) fun q2 _ hc2 => LD_int hc2 ?_
    simp only [four, List.getElem_cons_succ, List.getElem_cons_zero]
    refine hm.ixI hxm fun q _ hc => LD_int hc ?_
    intro w6 hE6
    refine cond_dec (fun hneg2 => ?_) (fun hnn => hskip (fun hf => hnn ((free_iff hvm hxm).1 hf).2.2) w6 hE6)
    intro w9 hE9 _
    have hE59 := hE6.trans hE9
    refine LD_box3 (hb1.ext (hE5.trans hE59)) ?_
    refine (hR1.ext hE59).ixI (i := 0) (by simp [four]) fun q0 _ hc0 => LD_int hc0 ⟨Ext.refl _, ?_⟩
    refine (hR1.ext hE59).ixI (i := 1) (by simp [four]) fun q0 _ hc0 => ⟨Ext.refl _, LD_int hc0 ⟨Ext.refl _, ?_⟩⟩
    simp only [four, List.getElem_cons_succ, List.getElem_cons_zero]
    refine call (mtTake_ok (h.ext (hE5.trans hE59)) (hm.ext hE59) hml (by omega) hpv hxl) ?_
    rintro r w10 ⟨hE10, hO10⟩
    refine ⟨hE10, ?_⟩
    unfold V_s_GreedyMatching_k4
    refine IN2_next hle hi' ⟨hE5.trans (hE59.trans hE10), ?_⟩
    rw [hsn, takeE, if_pos ((free_iff hvm hxm).2 ⟨by simpa [four] using hne, hneg, hneg2⟩)]
    refine (hO10.rep ?_).any
    exact putE_all hok (by show I64 _; unfold I64; simp only; omega) (by show I64 _; unfold I64; simp only; omega)
  · have : i = (edgesOf n.ends).length := by omega
    subst this
    rw [List.take_length] at hm
    exact ⟨hE.trans hE5, _, hm, .yes hg⟩

end Go.Proofs.Ytcilbmkieclelaa
