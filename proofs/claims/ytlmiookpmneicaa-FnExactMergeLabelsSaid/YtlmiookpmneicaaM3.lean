/- Own texts, merged: Merge2, MergeLabelsWalk, Door. -/
import Derived.Test.YtlmiookpmneicaaM2
import Derived.Test.YtlmiookpmneicaaRows
import Derived.KernelRfl
import Derived.JoinedOf
set_option linter.unusedVariables false
section
/- Two labels made one: the two functions. -/
namespace Go.Proofs.Ytlmiookpmneicaa
open Go.GX Go.RowKit
set_option maxRecDepth 100000

/-- A problem of the call's own memory, below a block. -/
structure OutP (base top : Nat) (w : World) (z u : Sl) (q : Prob) : Prop where
  ex : ∃ (b0 : Nat) (w0 w1 : World), base ≤ b0 ∧ b0 ≤ w0.heap.size ∧ w0.heap.size ≤ w1.heap.size ∧ w1.heap.size ≤ top ∧ top ≤ w.heap.size ∧ OutM b0 w0 z q.nodes ∧ (∀ k, b0 ≤ k → k < w0.heap.size → w.heap[k]? = w0.heap[k]?) ∧ OutM w0.heap.size w1 u q.edges ∧ ∀ k, w0.heap.size ≤ k → k < w1.heap.size → w.heap[k]? = w1.heap[k]?
  labels : I64 q.labels
  degree : I64 q.degree

theorem OutP.prob {base top : Nat} {w : World} {z u : Sl} {q : Prob} (h : OutP base top w z u q) : RProb w z u q := by
  obtain ⟨b0, w0, w1, _, _, _, _, _, h3, h4, h5, h6⟩ := h.ex
  exact ⟨h.labels, h.degree, (h3.keep h4).rep, (h5.keep h6).rep⟩

theorem OutP.ext {base top : Nat} {w w' : World} {z u : Sl} {q : Prob} (h : OutP base top w z u q) (hE : Ext w w') : OutP base top w' z u q := by
  obtain ⟨b0, w0, w1, a1, a2, a3, a4, a5, h3, h4, h5, h6⟩ := h.ex
  have hz := hE.size_le
  exact ⟨⟨b0, w0, w1, a1, a2, a3, a4, by omega, h3, fun k h1 h2 => by rw [hE.same (by omega), h4 k h1 h2], h5, fun k h1 h2 => by rw [hE.same (by omega), h6 k h1 h2]⟩, h.labels, h.degree⟩

theorem OutP.chgR {base top lo hi : Nat} {w w' : World} {z u : Sl} {q : Prob} (h : OutP base top w z u q) (hC : Chg w w' (fun b => lo ≤ b ∧ b < hi)) (hh : hi ≤ base) : OutP base top w' z u q := by
  obtain ⟨b0, w0, w1, a1, a2, a3, a4, a5, h3, h4, h5, h6⟩ := h.ex
  have hz := hC.size
  exact ⟨⟨b0, w0, w1, a1, a2, a3, a4, by omega, h3, fun k h1 h2 => by rw [hC.block k (by omega) (fun hD => by have := hD.2; omega), h4 k h1 h2], h5, fun k h1 h2 => by rw [hC.block k (by omega) (fun hD => by have := hD.2; omega), h6 k h1 h2]⟩, h.labels, h.degree⟩

def MgIs (A : Prop) (q : Prob) (x y : Int) (z u : Sl) (ok : Bool) : Prop := (ok = true ∧ A ∧ x = q.labels ∧ y = q.degree) ∨ (ok = false ∧ ¬ A ∧ x = 0 ∧ y = 0 ∧ z = ⟨none, 0, 0⟩ ∧ u = ⟨none, 0, 0⟩)

theorem conf_small {n k : Nat} (hn : n ≤ 8) (hk : k ≤ 4) (C : List (List Int)) : (∀ r ∈ confOf n k C, ∀ x ∈ r, I64 x) ∧ (confOf n k C).length ≤ 1048576 ∧ ∀ r ∈ confOf n k C, r.length ≤ 1048576 := by
  refine ⟨fun r hr x hx => ?_, ?_, fun r hr => ?_⟩
  · have := (mem_msets.1 (List.mem_filter.1 hr).1).labs x hx
    unfold I64; omega
  · have h1 := List.length_filter_le (fun c => C.contains c) (msets n k)
    have h2 := msets_len n k
    have h3 : n ^ k ≤ 8 ^ k := Nat.pow_le_pow_left hn k
    have h4 : 8 ^ k ≤ 8 ^ 4 := Nat.pow_le_pow_right (by decide) hk
    have h5 : 8 ^ 4 = 4096 := by decide
    unfold confOf
    omega
  · have := (mem_msets.1 (List.mem_filter.1 hr).1).len
    omega

/-- The map, part of it made. -/
def stageF (n : Nat) (a b : Int) (i : Nat) : List Int := (List.range n).map fun (x : Nat) => if x < i then mergeF a b x else if (x : Int) = b then a else x
theorem stageF_len (n : Nat) (a b : Int) (i : Nat) : (stageF n a b i).length = n := by simp [stageF]
theorem stageF_get {n : Nat} {a b : Int} {i j : Nat} (h : j < (stageF n a b i).length) : (stageF n a b i)[j] = if j < i then mergeF a b j else if (j : Int) = b then a else j := by simp [stageF]
theorem stageF_end (n : Nat) (a b : Int) : stageF n a b n = mergeTo n a b := by
  unfold stageF mergeTo
  apply List.map_congr_left
  intro x hx
  rw [if_pos (List.mem_range.1 hx)]
theorem stageF_zero {n B : Nat} {a : Int} (_hB : B < n) : (upTo n).set B a = stageF n a B 0 := by
  refine List.ext_getElem (by simp [stageF, upTo]) fun j h1 h2 => ?_
  rw [stageF_get h2, List.getElem_set]
  by_cases hj : B = j
  · subst hj; simp
  · have h3 : ¬ (j : Int) = (B : Int) := by omega
    simp [hj, h3, upTo]
theorem stageF_succ {n : Nat} {a b : Int} {i : Nat} (_hi : i < n) : (stageF n a b i).set i (mergeF a b i) = stageF n a b (i + 1) := by
  refine List.ext_getElem (by simp [stageF]) fun j h1 h2 => ?_
  rw [stageF_get h2, List.getElem_set]
  by_cases hj : i = j
  · subst hj; simp
  · rw [if_neg hj, stageF_get]
    by_cases hji : j < i
    · rw [if_pos hji, if_pos (show j < i + 1 by omega)]
    · rw [if_neg hji, if_neg (show ¬ j < i + 1 by omega)]
theorem stageF_same {n : Nat} {a b : Int} {i : Nat} (hi : i < n) (h : ¬ (if (i : Int) = b then a else (i : Int)) > b) : stageF n a b i = stageF n a b (i + 1) := by
  rw [← stageF_succ hi]
  refine List.ext_getElem (by simp) fun j h1 h2 => ?_
  rw [List.getElem_set]
  by_cases hj : i = j
  · subst hj
    rw [if_pos rfl, stageF_get, if_neg (by omega)]
    unfold mergeF
    by_cases hb : (i : Int) = b
    · rw [if_pos hb] at h ⊢; rw [if_pos hb, if_neg h]
    · rw [if_neg hb] at h ⊢; rw [if_neg hb, if_neg h]
  · rw [if_neg hj]
theorem mergeF_more {a b : Int} {i : Nat} (h : (if (i : Int) = b then a else (i : Int)) > b) : mergeF a b i = (if (i : Int) = b then a else (i : Int)) - 1 := by
  unfold mergeF
  by_cases hb : (i : Int) = b
  · rw [if_pos hb] at h ⊢; rw [if_pos hb, if_pos h]
  · rw [if_neg hb] at h ⊢; rw [if_neg hb, if_pos h]

/-- Zeros in place of a problem. -/
theorem zero_problem' {w w2 : World} {px : Addr} {Q : Int → Int → Sl → Sl → World → Prop} (hE : Ext w w2) (hb : Box w2 px T.t_i_Problem [.int .i64 0, .int .i64 0, .slice none 0 0, .slice none 0 0]) (h1 : w.heap.size ≤ px.block)
    (hQ : ∀ w', Ext w w' → Q 0 0 ⟨none, 0, 0⟩ ⟨none, 0, 0⟩ w') : GX.ST px 0 [.int .i64 0, .int .i64 0, .slice none 0 0, .slice none 0 0] w2 fun w' => LD [.int .i64, .int .i64, .sl, .sl] px w' fun (x' : Int) (y' : Int) (z' : Sl) (u' : Sl) => Q x' y' z' u' w' := by
  refine ST_all hb (one4p 0 0 ⟨none, 0, 0⟩ ⟨none, 0, 0⟩) rfl fun w3 hs3 hz3 hb3 => ?_
  exact LD_iiss (z := ⟨none, 0, 0⟩) (u := ⟨none, 0, 0⟩) hb3 (hQ w3 (hs3.ext0 hE fun k hk => by cases hk; omega))

theorem MergeLabels_ok {w : World} {c d : Sl} {p : Prob} {a b : Int} (h : RProb w c d p) (ha : I64 a) (hb : I64 b) (hs : SmallP p) :
    Calls Try.prog F.i_MergeLabels #[.agg #[.int .i64 p.labels, .int .i64 p.degree, c.v, d.v], .int .i64 a, .int .i64 b] w (Ret [.agg [.int .i64, .int .i64, .sl, .sl], .at .bool] fun (x : Int) (y : Int) (z : Sl) (u : Sl) (ok : Bool) w' => Ext w w' ∧ MgIs (MgAsked p a b) (mergeP p a b) x y z u ok ∧ (ok = true → OutP w.heap.size w'.heap.size w' z u (mergeP p a b))) := by
  refine C_i_MergeLabels ?_
  unfold V_i_MergeLabels
  refine NEW_intro fun pp w1 hp1 hs1 hE1 hb1 => NEW_intro fun px w2 hp2 hs2 hE2 hb2 => ?_
  have hE := hE1.trans hE2
  have hz1 := hE1.size_le
  replace h := h.ext hE
  replace hb1 := hb1.ext hE2
  have hno : ∀ {w' : World}, Ext w2 w' → ¬ MgAsked p a b → GX.ST px 0 [.int .i64 0, .int .i64 0, .slice none 0 0, .slice none 0 0] w' fun w'' => LD [.int .i64, .int .i64, .sl, .sl] px w'' fun (x : Int) (y : Int) (z : Sl) (u : Sl) => Ext w w'' ∧ MgIs (MgAsked p a b) (mergeP p a b) x y z u false ∧ (false = true → OutP w.heap.size w''.heap.size w'' z u (mergeP p a b)) := fun hE' hn => by
    exact zero_problem' (hE.trans hE') (hb2.ext hE') (by omega) fun w'' hE'' => ⟨hE'', .inr ⟨rfl, hn, rfl, rfl, rfl, rfl⟩, fun hf => by cases hf⟩
  refine LD_iiss hb1 ?_
  refine call (IsProblem_ok h) ?_
  rintro x w3 ⟨hx, hE3⟩
  refine cond_not (fun hf => hno hE3 fun hA => by rw [hx.2 hA.good] at hf; cases hf) (fun ht => LD_iiss (hb1.ext hE3) ?_)
  have hg := hx.1 ht
  have hlab := hg.lab
  have hdeg := hg.deg
  refine RUN_lits slt_int [a, b] (by simp) (by simp) rfl rfl fun x17 w4 hE4 hO4 => ?_
  have hE24 := hE3.trans hE4
  refine call (hasLabels_ok hlab (hO4.rep (by intro z hz; simp at hz; rcases hz with rfl | rfl; exact ha; exact hb)).any) ?_
  rintro y w5 ⟨hy, hE5⟩
  have hE25 := hE24.trans hE5
  have hin : AllIn [a, b] 0 (p.labels - 1) ↔ (0 ≤ a ∧ a < p.labels) ∧ (0 ≤ b ∧ b < p.labels) := by
    constructor
    · intro hA
      have h1 := hA a (by simp)
      have h2 := hA b (by simp)
      omega
    · rintro ⟨h1, h2⟩ z hz
      simp at hz
      rcases hz with rfl | rfl <;> omega
  refine cond_not (fun hf => hno hE25 fun hA => by rw [hy.2 (hin.2 ⟨hA.fst, hA.snd⟩)] at hf; cases hf) (fun ht2 => ?_)
  obtain ⟨ha', hb'⟩ := hin.1 (hy.1 ht2)
  refine cond_eq (fun heq => hno hE25 fun hA => hA.ne heq) (fun hne => ?_)
  have hA : MgAsked p a b := ⟨hg, ha', hb', hne⟩
  unfold V_i_MergeLabels_k1
  replace hE := hE.ext hE25
  replace h := h.ext hE25
  replace hb1 := hb1.ext hE25
  replace hb2 := hb2.ext hE25
  obtain ⟨n, hn⟩ := Int.eq_ofNat_of_zero_le (show 0 ≤ p.labels by omega)
  obtain ⟨B, rfl⟩ := Int.eq_ofNat_of_zero_le hb'.1
  have hBn : B < n := by omega
  refine LD_bi0 hb1 ?_
  rw [hn]
  refine call (numbersTo_ok n (by omega) w5) ?_
  rintro t w6 ⟨hE6, hO6⟩
  refine IX_own hO6 (i := B) (by rw [upTo_len]; exact hBn) rfl fun q hq => ST_own hO6 (by rw [upTo_len]; exact hBn) hq a rfl fun w7 hO7 hs7 => ?_
  rw [stageF_zero hBn] at hO7
  have hE7 : Ext w5 w7 := hs7.ext0 hE6 fun k hk => (hO6.blk k hk).1
  have htl : t.len = n := by rw [hO7.1, stageF_len]
  refine ⟨IN n fun i w' => Ext w5 w' ∧ OwnL w' w5.heap.size T.t_int t (stageF n a B i), MN n, IN_zero ⟨hE7, hO7⟩, ?_⟩
  rintro _ w8 ⟨i, rfl, hi, hE8, hO8⟩
  intros
  rw [htl]
  have h64 : ∀ j, ∀ y ∈ stageF n a B j, I64 y := fun j y hy => by
    obtain ⟨v, hv, rfl⟩ := List.mem_map.1 hy
    have := List.mem_range.1 hv
    unfold mergeF I64
    split
    · split
      · split <;> omega
      · split <;> omega
    · split <;> omega
  refine cond_dec (fun hlt => ?_) (fun hge => ?_)
  · have hi' : i < n := by omega
    have hil : i < (stageF n a B i).length := by rw [stageF_len]; exact hi'
    have hR8 := (hO8.rep (h64 i)).any
    have hel : (stageF n a B i)[i] = if (i : Int) = B then a else i := by rw [stageF_get, if_neg (by omega)]
    refine hR8.ixI hil fun q _ hc => LD_int hc ?_
    refine cond_dec (fun hgt => ?_) (fun hle => ?_)
    · refine hR8.ixI hil fun q2 _ hc2 => LD_int hc2 ?_
      refine IX_own hO8 hil rfl fun q3 hq3 => ?_
      have hb64 := h64 i _ (List.getElem_mem hil)
      have hval : (stageF n a B i)[i] - 1 = mergeF a B i := by rw [hel] at hgt ⊢; rw [mergeF_more hgt]
      have hsmall : 0 ≤ (stageF n a B i)[i] ∧ (stageF n a B i)[i] ≤ 100 := by rw [hel]; split <;> omega
      rw [wrap_of (by omega) (by omega), hval]
      refine ST_own hO8 hil hq3 (mergeF a B i) rfl fun w9 hO9 hs9 => ?_
      rw [stageF_succ hi'] at hO9
      exact IN_next (by omega) hi' ⟨hs9.ext0 hE8 fun k hk => (hO8.blk k hk).1, hO9⟩
    · rw [hel] at hle
      rw [stageF_same hi' hle] at hO8
      exact IN_next (by omega) hi' ⟨hE8, hO8⟩
  · have : i = n := by omega
    subst this
    rw [stageF_end] at hO8
    have h64m : ∀ y ∈ mergeTo i a B, I64 y := fun y hy => by have := mergeTo_mem (n := i) (a := a) (b := B) (by omega) (by omega) hne hy; unfold I64; omega
    have hRf := (hO8.rep h64m).any
    intro w14 hE14 _
    have hE514 := hE8.trans hE14
    refine ⟨fun _ => False, fun h => h, LD_bi0 (hb1.ext hE514) ⟨fun h => h, LD_bi1 (hb1.ext hE514) ⟨fun h => h, LD_bs2 (hb1.ext hE514) ⟨fun h => h, LD_bs3 (hb1.ext hE514) ?_⟩⟩⟩⟩
    have ek : p.degree = ((p.degree.toNat : Nat) : Int) := by omega
    have en : p.labels.toNat = i := by omega
    have r1 := conf_rn hA ek hg.nodes
    have r2 := conf_rn hA (k := 2) rfl hg.edges
    rw [en] at r1 r2
    refine call (renamed_ok (h.nodes.ext hE514) (hRf.ext hE14) r1 hs.1.1 (by omega) (by omega)) ?_
    rintro z w15 ⟨hE15, tz, hZ⟩
    refine ⟨.of_ext hE15, call (renamed_ok (h.edges.ext (hE514.trans hE15)) (hRf.ext (hE14.trans hE15)) r2 hs.2.1 (by omega) (by omega)) ?_⟩
    rintro u w16 ⟨hE16, tu, hU⟩
    refine ⟨.of_ext (hE15.trans hE16), .of_ext (hE15.trans hE16), ?_⟩
    have hE516 := hE514.trans (hE15.trans hE16)
    have hl2 := hb2.lt
    have hz5 := hE.size_le
    have hz14 := hE514.size_le
    have hz15 := hE15.size_le
    have hz16 := hE16.size_le
    rw [wrap_of (by omega) (by omega)]
    refine ST_all (hb2.ext hE516) (one4p _ _ _ _) rfl fun w17 hs17 hz17 hb17 => LD_iiss hb17 ?_
    have c1 := conf_small (n := i - 1) (k := p.degree.toNat) (by omega) (by omega) (rowsOf (mergeTo i a B) p.nodes)
    have c2 := conf_small (n := i - 1) (k := 2) (by omega) (by omega) (rowsOf (mergeTo i a B) p.edges)
    have hq : mergeP p a B = ⟨p.labels - 1, p.degree, confOf (i - 1) p.degree.toNat (rowsOf (mergeTo i a B) p.nodes), confOf (i - 1) 2 (rowsOf (mergeTo i a B) p.edges)⟩ := by unfold mergeP; rw [en]
    rw [hq]
    refine ⟨hs17.ext0 (hE.trans hE516) fun k hk => by cases hk; omega, .inl ⟨rfl, hA, by show _ = p.labels - 1; omega, rfl⟩, fun _ => ⟨⟨w14.heap.size, w15, w17, by omega, by omega, by omega, Nat.le_refl _, Nat.le_refl _, ?_, fun k h1 h2 => ?_, ?_, fun _ _ _ => rfl⟩, ?_, ?_⟩⟩
    · exact ⟨⟨tz, hZ⟩, c1.1, c1.2.1, c1.2.2⟩
    · rw [hs17.block k (by omega) (by intro he; cases he; omega), hE16.same h2]
    · exact ⟨⟨tu, hU.keep fun k h1 h2 => hs17.block k h2 (by intro he; cases he; omega)⟩, c2.1, c2.2.1, c2.2.2⟩
    · show I64 (p.labels - 1); unfold I64; omega
    · show I64 p.degree; unfold I64; omega

theorem reMerge_ok {n : Nat} {a b : Int} (hn : n ≤ 1000) (ha : 0 ≤ a ∧ a < n) (hb : 0 ≤ b ∧ b < n) (hne : a ≠ b) (w : World) :
    Calls Try.prog F.s_reMerge #[.int .i64 n, .int .i64 a, .int .i64 b] w (Ret [.at .sl] fun (r : Sl) w' => Ext w w' ∧ OwnL w' w.heap.size T.t_int r (mergeTo n a b)) := by
  refine C_s_reMerge ?_
  unfold V_s_reMerge
  refine ⟨IN2 n fun i (o : Sl) w' => Ext w w' ∧ OwnL w' w.heap.size T.t_int o ((List.range i).map fun (x : Nat) => mergeF a b x), MN2 n, IN2_zero ⟨Ext.refl _, by simpa using OwnL.nil _ _ _⟩, ?_⟩
  rintro o _ w1 ⟨i, rfl, hi, hE1, hO1⟩
  intros
  refine cond_dec (fun hlt => ?_) (fun hge => ?_)
  · have hi' : i < n := by omega
    have hz1 := hE1.size_le
    have hin := mergeF_in (n := n) (x := (i : Int)) ha hb hne (by omega)
    have fin : ∀ v : Int, v = mergeF a b i → RUN Try.prog (.at .sl) (Instr.buildSlice T.t_sl_int 1 #[(0, .int .i64 v)]) w1 fun (x : Sl) w2 => RUN Try.prog (.at .sl) (bsem .append #[T.t_sl_int, T.t_sl_int] T.t_sl_int #[o.v, x.v]) w2 fun (x28 : Sl) w3 => V_s_reMerge_k3 (IN2 n fun i (o : Sl) w' => Ext w w' ∧ OwnL w' w.heap.size T.t_int o ((List.range i).map fun (x : Nat) => mergeF a b x)) (MN2 n) o (i : Int) w1 x28 w3 := fun v hv => by
      refine RUN_lit1 (α := Int) slt_int v rfl (by decide) fun y w2 hE2 hO2 => ?_
      have hO12 := hO1.ext hE2
      refine RUN_append (α := Int) slt_int hO12 (by have := hE2.size_le; omega) (hO2.rep (by intro x hx; rw [List.mem_singleton.1 hx, hv]; show I64 _; unfold I64; omega)).any (by simp; omega) (by simp [maxLen]; omega) fun o' w3 hO3 hs3 => ?_
      unfold V_s_reMerge_k3
      refine IN2_next (by omega) hi' ⟨hs3.ext0 (hE1.trans hE2) fun k hk => (hO12.blk k hk).1, ?_⟩
      rw [List.range_succ, List.map_append, List.map_singleton, ← hv]
      exact hO3
    refine cond_eq (fun heq => ?_) (fun hneq => ?_)
    · have heq' : (i : Int) = b := heq
      refine cond_dec (fun hgt => ?_) (fun hle => fin _ (by unfold mergeF; rw [if_pos heq', if_neg hle]))
      rw [wrap_of (by omega) (by omega)]
      exact fin _ (by unfold mergeF; rw [if_pos heq', if_pos hgt])
    · have hneq' : ¬ (i : Int) = b := hneq
      refine cond_dec (fun hgt => ?_) (fun hle => fin _ (by unfold mergeF; rw [if_neg hneq', if_neg hle]))
      rw [wrap_of (by omega) (by omega)]
      exact fin _ (by unfold mergeF; rw [if_neg hneq', if_pos hgt])
  · have : i = n := by omega
    subst this
    exact ⟨hE1, hO1⟩

theorem sMergeLabels_ok {w : World} {c d : Sl} {p : Prob} {a b : Int} (h : RProb w c d p) (ha : I64 a) (hb : I64 b) :
    Calls Try.prog F.s_MergeLabels #[.agg #[.int .i64 p.labels, .int .i64 p.degree, c.v, d.v], .int .i64 a, .int .i64 b] w (Ret [.agg [.int .i64, .int .i64, .sl, .sl], .at .bool] fun (x : Int) (y : Int) (z : Sl) (u : Sl) (ok : Bool) w' => Ext w w' ∧ MgIs (MgAsked p a b) (mergeP p a b) x y z u ok ∧ (ok = true → RProb w' z u (mergeP p a b))) := by
  refine C_s_MergeLabels ?_
  unfold V_s_MergeLabels
  refine NEW_intro fun pp w1 hp1 hs1 hE1 hb1 => NEW_intro fun px w2 hp2 hs2 hE2 hb2 => ?_
  have hE := hE1.trans hE2
  have hz1 := hE1.size_le
  replace h := h.ext hE
  replace hb1 := hb1.ext hE2
  have hno : ∀ {w' : World}, Ext w2 w' → ¬ MgAsked p a b → GX.ST px 0 [.int .i64 0, .int .i64 0, .slice none 0 0, .slice none 0 0] w' fun w'' => LD [.int .i64, .int .i64, .sl, .sl] px w'' fun (x : Int) (y : Int) (z : Sl) (u : Sl) => Ext w w'' ∧ MgIs (MgAsked p a b) (mergeP p a b) x y z u false ∧ (false = true → RProb w'' z u (mergeP p a b)) := fun hE' hn => by
    exact zero_problem' (hE.trans hE') (hb2.ext hE') (by omega) fun w'' hE'' => ⟨hE'', .inr ⟨rfl, hn, rfl, rfl, rfl, rfl⟩, fun hf => by cases hf⟩
  refine LD_iiss hb1 ?_
  refine call (prGood_ok h) ?_
  rintro x w3 ⟨hx, hE3⟩
  refine cond_not (fun hf => hno hE3 fun hA => by rw [hx.2 hA.good] at hf; cases hf) (fun ht => ?_)
  have hg := hx.1 ht
  have hlab := hg.lab
  have hdeg := hg.deg
  refine RUN_lits slt_int [a, b] (by simp) (by simp) rfl rfl fun x17 w4 hE4 hO4 => ?_
  have hE24 := hE3.trans hE4
  refine LD_bi0 (hb1.ext hE24) ?_
  rw [wrap_of (n := p.labels - 1) (by omega) (by omega)]
  refine call (l1All_ok (hO4.rep (by intro z hz; simp at hz; rcases hz with rfl | rfl; exact ha; exact hb)).any 0 (p.labels - 1)) ?_
  rintro y _ ⟨hy, rfl⟩
  have hin : AllIn [a, b] 0 (p.labels - 1) ↔ (0 ≤ a ∧ a < p.labels) ∧ (0 ≤ b ∧ b < p.labels) := by
    constructor
    · intro hA
      have h1 := hA a (by simp)
      have h2 := hA b (by simp)
      omega
    · rintro ⟨h1, h2⟩ z hz
      simp at hz
      rcases hz with rfl | rfl <;> omega
  refine cond_not (fun hf => hno hE24 fun hA => by rw [hy.2 (hin.2 ⟨hA.fst, hA.snd⟩)] at hf; cases hf) (fun ht2 => ?_)
  obtain ⟨ha', hb'⟩ := hin.1 (hy.1 ht2)
  refine cond_eq (fun heq => hno hE24 fun hA => hA.ne heq) (fun hne => ?_)
  have hA : MgAsked p a b := ⟨hg, ha', hb', hne⟩
  unfold V_s_MergeLabels_k1
  replace hE := hE.ext hE24
  replace h := h.ext hE24
  replace hb1 := hb1.ext hE24
  replace hb2 := hb2.ext hE24
  obtain ⟨n, hn⟩ := Int.eq_ofNat_of_zero_le (show 0 ≤ p.labels by omega)
  refine LD_bi0 hb1 ?_
  rw [hn]
  refine call (reMerge_ok (n := n) (by omega) (by omega) (by omega) hne w4) ?_
  rintro t w6 ⟨hE6, hO6⟩
  have h64m : ∀ y ∈ mergeTo n a b, I64 y := fun y hy => by have := mergeTo_mem (n := n) (a := a) (b := b) (by omega) (by omega) hne hy; unfold I64; omega
  have hRf := (hO6.rep h64m).any
  intro w14 hE14 _
  have hE514 := hE6.trans hE14
  refine ⟨fun _ => False, fun h => h, LD_bi0 (hb1.ext hE514) ⟨fun h => h, LD_bi1 (hb1.ext hE514) ⟨fun h => h, LD_bs2 (hb1.ext hE514) ⟨fun h => h, LD_bs3 (hb1.ext hE514) ?_⟩⟩⟩⟩
  have ek : p.degree = ((p.degree.toNat : Nat) : Int) := by omega
  have en : p.labels.toNat = n := by omega
  have r1 := conf_rn hA ek hg.nodes
  have r2 := conf_rn hA (k := 2) rfl hg.edges
  rw [en] at r1 r2
  refine call (prMap_ok (h.nodes.ext hE514) (hRf.ext hE14) r1 (by omega) (by omega)) ?_
  rintro z w15 ⟨hE15, hZ⟩
  refine ⟨.of_ext hE15, call (prMap_ok (h.edges.ext (hE514.trans hE15)) (hRf.ext (hE14.trans hE15)) r2 (by omega) (by omega)) ?_⟩
  rintro u w16 ⟨hE16, hU⟩
  refine ⟨.of_ext (hE15.trans hE16), .of_ext (hE15.trans hE16), ?_⟩
  have hE516 := hE514.trans (hE15.trans hE16)
  have hlt2 := hb2.lt
  have hz14 := hE514.size_le
  have hz15 := hE15.size_le
  have hz4 := hE4.size_le
  rw [wrap_of (by omega) (by omega)]
  refine ST_all (hb2.ext hE516) (one4p _ _ _ _) rfl fun w17 hs17 hz17 hb17 => LD_iiss hb17 ?_
  have hq : mergeP p a b = ⟨p.labels - 1, p.degree, confOf (n - 1) p.degree.toNat (rowsOf (mergeTo n a b) p.nodes), confOf (n - 1) 2 (rowsOf (mergeTo n a b) p.edges)⟩ := by unfold mergeP; rw [en]
  rw [hq]
  refine ⟨hs17.ext0 (hE.trans hE516) fun k hk => by cases hk; omega, .inl ⟨rfl, hA, by show _ = p.labels - 1; omega, rfl⟩, fun _ => ⟨?_, ?_, ?_, ?_⟩⟩
  · show I64 (p.labels - 1); unfold I64; omega
  · show I64 p.degree; unfold I64; omega
  · exact ((hZ.ext hE16).stepD hs17 fun k hk he => by cases he; omega).any
  · exact (hU.stepD hs17 fun k hk he => by cases he; omega).any

/-! ### Answers -/

def zeroP : Prob := ⟨0, 0, [], []⟩

theorem MergeLabels_out {w : World} {c d : Sl} {p : Prob} {a b : Int} (h : RProb w c d p) (ha : I64 a) (hb : I64 b) (hs : SmallP p) :
    Calls Try.prog F.i_MergeLabels #[.agg #[.int .i64 p.labels, .int .i64 p.degree, c.v, d.v], .int .i64 a, .int .i64 b] w (Ret [.agg [.int .i64, .int .i64, .sl, .sl], .at .bool] fun (x : Int) (y : Int) (z : Sl) (u : Sl) (ok : Bool) w' => Ext w w' ∧ ∃ Q : Prob, x = Q.labels ∧ y = Q.degree ∧ OutP w.heap.size w'.heap.size w' z u Q ∧ AnsG (MgAsked p a b) (mergeP p a b) zeroP Q ok) := by
  refine call (MergeLabels_ok h ha hb hs) ?_
  rintro x y z u ok w' ⟨hE, hm, ho⟩
  refine ⟨hE, ?_⟩
  rcases hm with ⟨rfl, hA, rfl, rfl⟩ | ⟨rfl, hA, rfl, rfl, rfl, rfl⟩
  · exact ⟨_, rfl, rfl, ho rfl, .yes hA⟩
  · exact ⟨zeroP, rfl, rfl, ⟨⟨w'.heap.size, w', w', hE.size_le, Nat.le_refl _, Nat.le_refl _, Nat.le_refl _, Nat.le_refl _, OutM.nil _ _, fun _ _ _ => rfl, OutM.nil _ _, fun _ _ _ => rfl⟩, by show I64 0; unfold I64; omega, by show I64 0; unfold I64; omega⟩, .no hA⟩

theorem sMergeLabels_out {w : World} {c d : Sl} {p : Prob} {a b : Int} (h : RProb w c d p) (ha : I64 a) (hb : I64 b) :
    Calls Try.prog F.s_MergeLabels #[.agg #[.int .i64 p.labels, .int .i64 p.degree, c.v, d.v], .int .i64 a, .int .i64 b] w (Ret [.agg [.int .i64, .int .i64, .sl, .sl], .at .bool] fun (x : Int) (y : Int) (z : Sl) (u : Sl) (ok : Bool) w' => Ext w w' ∧ ∃ Q : Prob, x = Q.labels ∧ y = Q.degree ∧ RProb w' z u Q ∧ AnsG (MgAsked p a b) (mergeP p a b) zeroP Q ok) := by
  refine call (sMergeLabels_ok h ha hb) ?_
  rintro x y z u ok w' ⟨hE, hm, ho⟩
  refine ⟨hE, ?_⟩
  rcases hm with ⟨rfl, hA, rfl, rfl⟩ | ⟨rfl, hA, rfl, rfl, rfl, rfl⟩
  · exact ⟨_, rfl, rfl, ho rfl, .yes hA⟩
  · exact ⟨zeroP, rfl, rfl, ⟨by show I64 0; unfold I64; omega, by show I64 0; unfold I64; omega, (OutM.nil 0 w').rep, (OutM.nil 0 w').rep⟩, .no hA⟩

/-- A problem whose cells hold marks. -/
structure Marked (w : World) (z u : Sl) (q : Prob) (k : Int) : Prop where
  nodes : R w z (marks2 1 q.nodes)
  edges : R w u (marks2 (1 + pre q.nodes q.nodes.length) q.edges)
  val : k = 1 + pre q.nodes q.nodes.length + pre q.edges q.edges.length
  small : (q.nodes.length ≤ 1048576 ∧ ∀ r ∈ q.nodes, r.length ≤ 1048576) ∧ q.edges.length ≤ 1048576 ∧ ∀ r ∈ q.edges, r.length ≤ 1048576

theorem Marked.ext {w w' : World} {z u : Sl} {q : Prob} {k : Int} (h : Marked w z u q k) (hE : Ext w w') : Marked w' z u q k := ⟨h.nodes.ext hE, h.edges.ext hE, h.val, h.small⟩

theorem rb_in {base : Nat} {w : World} {s : Sl} {L : List (List Int)} {ss : List Sl} (h : RowsD w base T.t_int T.t_sl_int s L ss) {b : Nat} (hb : RB ss b) : base ≤ b ∧ b < w.heap.size := by
  obtain ⟨r, hr, hrb⟩ := hb
  obtain ⟨i, hi, rfl⟩ := List.mem_iff_getElem.1 hr
  have hiL : i < L.length := by rw [← h.len]; exact hi
  exact (h.row i _ _ (List.getElem?_eq_getElem hi) (List.getElem?_eq_getElem hiL)).blk b hrb

theorem markP_out {base top : Nat} {w : World} {z u : Sl} {q : Prob} (h : OutP base top w z u q) :
    Calls Try.prog F.l_markProblem #[.agg #[.int .i64 q.labels, .int .i64 q.degree, z.v, u.v], .int .i64 1] w (Ret [.at (.int .i64)] fun (r : Int) w' => 0 ≤ r ∧ Marked w' z u q r ∧ Chg w w' (fun b => base ≤ b ∧ b < top)) := by
  obtain ⟨b0, w0, v0, a1, a2, a3, a4, a5, hZ, hk, hU, hk2⟩ := h.ex
  refine C_l_markProblem ?_
  unfold V_l_markProblem
  refine NEW_intro fun pa w1 hp1 hs1 hE1 hb1 => LD_bs2 hb1 ?_
  obtain ⟨ss, hM⟩ := hZ.ex
  obtain ⟨uu, hN⟩ := hU.ex
  have hp1' := pre_le hZ.small _ (Nat.le_refl _)
  have hp2' := pre_le hU.small _ (Nat.le_refl _)
  have hr1 := hZ.rows
  have hr2 := hU.rows
  have hM1 : RowsD w1 b0 T.t_int T.t_sl_int z q.nodes ss := hM.keep fun k h1 h2 => by rw [hE1.same (by omega), hk k h1 h2]
  refine call (markIntSS_rows hM1 hZ.rows hZ.small 1 (by omega) (by omega)) ?_
  rintro k1 w2 ⟨rfl, hM2, hC2⟩
  have hN2 : RowsD w2 w0.heap.size T.t_int T.t_sl_int u q.edges uu := hN.keep fun k h1 h2 => by
    rw [hC2.block k (by have := hE1.size_le; omega) (fun hD => by have := rb_in hM hD; omega), hE1.same (by omega), hk2 k h1 h2]
  have hb2 := hb1.chg hC2 fun hD => by have := rb_in hM hD; omega
  refine LD_bs3 hb2 ?_
  refine call (markIntSS_rows hN2 hU.rows hU.small (1 + pre q.nodes q.nodes.length) (by omega) (by omega)) ?_
  rintro k2 w3 ⟨rfl, hN3, hC3⟩
  have hM3 := hM2.away hC3 fun b hb hD => by
    have h2 := rb_in hN hD
    rcases hb with hb | hb
    · have := (hM.own.blk b hb).2; omega
    · have := rb_in hM hb; omega
  refine ⟨by omega, ⟨hM3.rep (marks2_I64 (by omega) (by omega) hZ.rows hZ.small), hN3.rep (marks2_I64 (by omega) (by omega) hU.rows hU.small), rfl, ⟨hZ.rows, hZ.small⟩, hU.rows, hU.small⟩, ?_⟩
  refine ((Chg.of_ext hE1).trans (hC2.mono fun b hb => ?_)).trans (hC3.mono fun b hb => ?_)
  · have := rb_in hM hb; omega
  · have := rb_in hN hb; omega

theorem heldP_ok {w : World} {z u : Sl} {q : Prob} {k : Int} (h : Marked w z u q k) :
    Calls Try.prog F.l_heldProblem #[.agg #[.int .i64 q.labels, .int .i64 q.degree, z.v, u.v], .int .i64 1] w (Ret [.at (.int .i64)] fun (r : Int) w' => r = k ∧ Ext w w') := by
  refine C_l_heldProblem ?_
  unfold V_l_heldProblem
  obtain ⟨h1, h2, rfl, ⟨hr1, hl1⟩, hr2, hl2⟩ := h
  have hp1' := pre_le hl1 _ (Nat.le_refl _)
  have hp2' := pre_le hl2 _ (Nat.le_refl _)
  refine NEW_intro fun pa w1 hp1 hs1 hE1 hb1 => LD_bs2 hb1 ?_
  refine call (heldIntSS_ok 1 (h1.ext hE1) (by omega) (by omega) hr1 hl1) ?_
  rintro _ _ ⟨rfl, rfl⟩
  refine cond_df (by omega) (LD_bs3 hb1 ?_)
  refine call (heldIntSS_ok _ (h2.ext hE1) (by omega) (by omega) hr2 hl2) ?_
  rintro _ _ ⟨rfl, rfl⟩
  exact cond_df (by omega) ⟨rfl, hE1⟩

end Go.Proofs.Ytlmiookpmneicaa
end

section
/- The walk of the law FnExactMergeLabels. -/
namespace Go.Proofs.Ytlmiookpmneicaa
open Go.GX Go.RowKit
set_option maxRecDepth 100000
set_option maxHeartbeats 800000

theorem fnExactMergeLabels_ok {w : World} {c0 e0 : Sl} {q0 : Prob} {d1 : Int} {d2 : Int} (h0 : RProb w c0 e0 q0) (h1 : I64 d1) (h2 : I64 d2) :
    Calls Try.prog F.l_FnExactMergeLabels #[.agg #[.int .i64 q0.labels, .int .i64 q0.degree, c0.v, e0.v], .int .i64 d1, .int .i64 d2] w (Ret [.at .bool] fun (x : Bool) w' => x = true ∧ Ext w w') := by
  refine C_l_FnExactMergeLabels ?_
  unfold V_l_FnExactMergeLabels
  refine NEW_intro fun p0 u0 hp0 hs0 hA0 hb0 => ?_
  have hE := hA0
  replace h0 := h0.ext hA0
  refine LD_iiss hb0 ?_
  refine call (szProblem_ok h0 1048576 (by omega) (by omega)) ?_
  rintro z0 x0 ⟨hz0, hB0⟩
  replace hE := hE.ext hB0
  replace h0 := h0.ext hB0
  replace hb0 := hb0.ext hB0
  refine cond_dec (fun _ => ⟨rfl, hE⟩) (fun hzl0 => ?_)
  have hS0 := (hz0 (by omega)).1
  have hzz0 := (hz0 (by omega)).2
  refine LD_iiss hb0 ?_
  refine call (toProblem_ok h0 hS0) ?_
  rintro _ _ zs0 us0 ws0 ⟨rfl, rfl, hEs0, hNs0⟩
  replace hE := hE.ext hEs0
  replace h0 := h0.ext hEs0
  replace hb0 := hb0.ext hEs0
  refine call (sMergeLabels_out hNs0 h1 h2) ?_
  rintro _ _ zS uS okS wA ⟨hCA, Q1, rfl, rfl, hP1, hA1⟩
  replace hE := hE.ext hCA
  replace h0 := h0.ext hCA
  replace hb0 := hb0.ext hCA
  refine NEW_ST (one4p _ _ _ _) rfl fun pS w6 hpS hES hcS => ?_
  replace hE := hE.ext hES
  replace h0 := h0.ext hES
  replace hb0 := hb0.ext hES
  replace hP1 := hP1.ext hES
  have hX := Ext.refl w6
  refine LD_iiss (hb0.ext hX) ?_
  have hlo0 := hX.size_le
  refine call (toProblem_own (h0.ext hX) hS0) ?_
  rintro _ _ zi0 ui0 wi0 ⟨rfl, rfl, hEi0, mid0, top0, hOP0⟩
  have hls0 := hEi0.size_le
  replace hX := hX.ext hEi0
  have hM0 := hOP0.mnodes
  have hMe0 := hOP0.medges
  have hlm0 := hOP0.lom
  have hmt0 := hOP0.mhi
  have htw0 := hOP0.top
  have hNi0 := hOP0.prob h0
  have hH0 := Ext.refl wi0
  refine NEW_ST (one4p _ _ _ _) rfl fun yi0 vi0 hqi0 hFi0 hc0 => ?_
  replace hX := hX.ext hFi0
  replace hM0 := hM0.ext hFi0
  replace hMe0 := hMe0.ext hFi0
  replace hNi0 := hNi0.ext hFi0
  replace hH0 := hH0.ext hFi0
  refine LD_iiss hc0 ?_
  have hhi0 := hH0.size_le
  have hXD := hX.size_le
  refine call (MergeLabels_out hNi0 h1 h2 hS0) ?_
  rintro _ _ zI uI okI wE ⟨hCE, Q2, rfl, rfl, hG, hA2⟩
  replace hX := hX.ext hCE
  replace hM0 := hM0.ext hCE
  replace hMe0 := hMe0.ext hCE
  replace hNi0 := hNi0.ext hCE
  replace hH0 := hH0.ext hCE
  replace hc0 := hc0.ext hCE
  obtain ⟨rfl, rfl⟩ := hA1.eq hA2
  have hzE := hCE.size_le
  refine NEW_ST (one4p _ _ _ _) rfl fun pI w12 hpI hEI hcI => ?_
  replace hX := hX.ext hEI
  replace hM0 := hM0.ext hEI
  replace hMe0 := hMe0.ext hEI
  replace hNi0 := hNi0.ext hEI
  replace hH0 := hH0.ext hEI
  replace hc0 := hc0.ext hEI
  replace hG := hG.ext hEI
  refine LD_iiss hcI (LD_iiss (hcS.ext hX) ?_)
  refine call (eqProblem_ok hG.prob (hP1.ext hX)) ?_
  rintro _ we1 ⟨rfl, hK⟩
  replace hX := hX.ext hK
  replace hM0 := hM0.ext hK
  replace hMe0 := hMe0.ext hK
  replace hNi0 := hNi0.ext hK
  replace hH0 := hH0.ext hK
  replace hc0 := hc0.ext hK
  replace hG := hG.ext hK
  replace hcI := hcI.ext hK
  refine cond_f (by simp) ?_
  refine cond_f (by simp) ?_
  unfold V_l_FnExactMergeLabels_k2
  intro m0 hG0 _
  replace hX := hX.ext hG0
  replace hM0 := hM0.ext hG0
  replace hMe0 := hMe0.ext hG0
  replace hNi0 := hNi0.ext hG0
  replace hH0 := hH0.ext hG0
  replace hc0 := hc0.ext hG0
  replace hG := hG.ext hG0
  replace hcI := hcI.ext hG0
  refine LD_iiss hc0 (LD_iiss (hb0.ext hX) ?_)
  refine ⟨Ext.refl _, call (toProblem_ok (h0.ext hX) hS0) ?_⟩
  rintro _ _ ze0 ue0 we0' ⟨rfl, rfl, hHe0, hNe0⟩
  replace hX := hX.ext hHe0
  replace hM0 := hM0.ext hHe0
  replace hMe0 := hMe0.ext hHe0
  replace hNi0 := hNi0.ext hHe0
  replace hH0 := hH0.ext hHe0
  replace hc0 := hc0.ext hHe0
  replace hG := hG.ext hHe0
  replace hcI := hcI.ext hHe0
  refine ⟨hHe0, call (eqProblem_ok hNi0 hNe0) ?_⟩
  rintro _ wf0 ⟨rfl, hK0⟩
  replace hX := hX.ext hK0
  replace hM0 := hM0.ext hK0
  replace hMe0 := hMe0.ext hK0
  replace hNi0 := hNi0.ext hK0
  replace hH0 := hH0.ext hK0
  replace hc0 := hc0.ext hK0
  replace hG := hG.ext hK0
  replace hcI := hcI.ext hK0
  refine ⟨hHe0.trans hK0, cond_f (by simp) ?_⟩
  refine LD_iiss hc0 ?_
  refine call (markProblem_ok hM0 hMe0 hlm0 hmt0 (by have := hH0.size_le; omega) _ (by omega) (by omega)) ?_
  rintro k0 wm0 ⟨hk0, hkk0, hSh, hCh⟩
  have hzk0 := hCh.size
  replace hX := hCh.extR hX (by omega)
  replace hG := hG.chgR hCh (by omega)
  replace hcI := hcI.chg hCh (by omega)
  refine cond_df (by omega) ?_
  refine LD_iiss hcI (LD_iiss (hcS.ext hX) ?_)
  refine call (eqProblem_ok hG.prob (hP1.ext hX)) ?_
  rintro _ we2 ⟨rfl, hK⟩
  replace hX := hX.ext hK
  replace hG := hG.ext hK
  replace hcI := hcI.ext hK
  refine cond_f (by simp) ?_
  refine cond_f (by simp) ?_
  unfold V_l_FnExactMergeLabels_k5
  refine LD_iiss hcI ?_
  refine call (markP_out hG) ?_
  rintro mk wg ⟨hmk, hMk, hSt⟩
  replace hX := hSt.extR hX (by omega)
  replace hcI := hcI.chg hSt (by omega)
  refine LD_iiss hcI ?_
  refine call (heldP_ok hMk) ?_
  rintro _ wh ⟨rfl, hK3⟩
  replace hX := hX.ext hK3
  replace hMk := hMk.ext hK3
  replace hcI := hcI.ext hK3
  refine cond_df (by omega) ?_
  refine cond_f (by simp) ?_
  refine LD_iiss (hb0.ext hX) ?_
  refine call (toProblem_ok (h0.ext hX) hS0) ?_
  rintro _ _ zj uj wj ⟨rfl, rfl, hEj, hNj⟩
  replace hX := hX.ext hEj
  replace hMk := hMk.ext hEj
  replace hcI := hcI.ext hEj
  refine call (MergeLabels_out hNj h1 h2 hS0) ?_
  rintro _ _ zL uL okL wL ⟨hCL, Q3, rfl, rfl, hGL, hA3⟩
  replace hX := hX.ext hCL
  replace hMk := hMk.ext hCL
  replace hcI := hcI.ext hCL
  obtain ⟨rfl, rfl⟩ := hA1.eq hA3
  refine NEW_ST (one4p _ _ _ _) rfl fun pL w26 hpL hEL hcL => ?_
  replace hX := hX.ext hEL
  replace hMk := hMk.ext hEL
  replace hcI := hcI.ext hEL
  replace hGL := hGL.ext hEL
  refine LD_iiss hcL (LD_iiss (hcS.ext hX) ?_)
  refine call (eqProblem_ok hGL.prob (hP1.ext hX)) ?_
  rintro _ we3 ⟨rfl, hK4⟩
  replace hX := hX.ext hK4
  replace hMk := hMk.ext hK4
  replace hcI := hcI.ext hK4
  refine cond_f (by simp) ?_
  refine cond_f (by simp) ?_
  refine LD_iiss hcI ?_
  refine call (heldP_ok hMk) ?_
  rintro _ wz ⟨rfl, hK5⟩
  replace hX := hX.ext hK5
  refine cond_df (by omega) ?_
  refine cond_f (by simp) ?_
  exact ⟨rfl, hE.trans hX⟩

end Go.Proofs.Ytlmiookpmneicaa
end

section
/- Facts of this seat's program that every claim's last step asks for, each computed once (together they need more memory than a text may use). -/
namespace Go.Proofs.Ytlmiookpmneicaa


theorem door_enters : Try.pinned.checked.prog.mayEnter = true := by kernel_rfl

theorem door_lifts : Try.pinned.checked.prog.liftsFinal = false := by kernel_rfl

theorem door_heard : Try.pinned.checked.prog.stopsHeard = true := by kernel_rfl

theorem door_laid : laidOutB Try.pinned.checked.prog = true := by kernel_rfl

theorem door_maps : mapsRowed Try.pinned.checked.prog = true := by kernel_rfl

end Go.Proofs.Ytlmiookpmneicaa
end
