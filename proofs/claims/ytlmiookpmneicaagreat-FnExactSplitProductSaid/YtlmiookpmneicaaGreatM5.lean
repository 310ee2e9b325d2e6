/- Own texts, merged: Product, Split, SplitProductWalk, Door. -/
import Derived.Test.YtlmiookpmneicaaGreatM4
import Derived.Test.YtlmiookpmneicaaGreatRows
import Derived.KernelRfl
import Derived.JoinedOf
section
/- Lists of labels in order, lists that are good; products of problems, both sides. -/
namespace Go.Proofs.YtlmiookpmneicaaGreat
open Go.GX Go.RowKit
set_option maxRecDepth 100000

/-! ### Lists of labels in order -/

theorem labsFrom_take {f n t : Nat} (h : f + t < n) : (labsFrom f n).take (t + 1) = (labsFrom f n).take t ++ [((f + t : Nat) : Int)] := by
  have hl : (labsFrom f n).length = n - f := by simp [labsFrom]
  rw [List.take_succ_eq_append_getElem (by omega)]
  simp [labsFrom]

theorem labsFrom_len (f n : Nat) : (labsFrom f n).length = n - f := by simp [labsFrom]

/-- One list and its continuations, added to a list of lists. -/
theorem add_one {w0 w : World} {next row : Sl} {A : List (List Int)} {ss : List Sl} {c : List Int} {v : Int} (hE : Ext w0 w) (hr : R w0 row c) (hc : c.length ≤ 1000) (hA : RowsD w w0.heap.size T.t_int T.t_sl_int next A ss) (hAl : A.length < 1048576) (hv : I64 v) {K : Sl → World → Prop}
    (hk : ∀ next' w' ss', Ext w0 w' → RowsD w' w0.heap.size T.t_int T.t_sl_int next' (A ++ [c ++ [v]]) ss' → K next' w') {x38 : Sl} {w6 : World} (hE6 : Ext w w6) (hO6 : OwnL w6 w.heap.size T.t_int x38 c) :
    RUN Tryz.prog (.at .sl) (Instr.buildSlice T.t_sl_int 1 #[(0, .int .i64 v)]) w6 fun (x40 : Sl) w7 =>
    RUN Tryz.prog (.at .sl) (bsem .append #[T.t_sl_int, T.t_sl_int] T.t_sl_int #[x38.v, x40.v]) w7 fun (x41 : Sl) w8 =>
    RUN Tryz.prog (.at .sl) (Instr.buildSlice T.t_sl_sl_int 1 #[(0, x41.v)]) w8 fun (x42 : Sl) w9 =>
    RUN Tryz.prog (.at .sl) (bsem .append #[T.t_sl_sl_int, T.t_sl_sl_int] T.t_sl_sl_int #[next.v, x42.v]) w9 K := by
  have hz0 := hE.size_le
  have hz6 := hE6.size_le
  refine RUN_lit1 (α := Int) slt_int v rfl (by decide) fun x40 w7 hE7 hO7 => ?_
  have hz7 := hE7.size_le
  refine RUN_append (α := Int) slt_int (hO6.ext hE7) (by omega) (hO7.rep (by intro x hx; rw [List.mem_singleton.1 hx]; exact hv)).any (by simp; omega) (by simp [maxLen]; omega) fun x41 w8 hO8 hs8 => ?_
  have hE68 : Ext w w8 := hs8.ext0 (hE6.trans hE7) fun k hk => (hO6.blk k hk).1
  refine RUN_lit1 (α := Sl) slt_rows x41 rfl (by decide) fun x42 w9 hE9 hO9 => ?_
  have hA9 := (hA.ext hE68).ext hE9
  refine RUN_append_rowD slt_rows (by decide) hA9 (by have := hE68.size_le; have := hE9.size_le; omega) ((hO8.ext hE9).low hz0) (hA.fresh (hO8.ext hE9) (Nat.le_refl _)) hO9 (by omega) (by unfold maxLen; omega) fun s' w10 hA10 hs10 => ?_
  exact hk _ _ _ (hs10.ext0 (hE.trans (hE68.trans hE9)) fun k hk => (hA9.own.blk k hk).1) hA10

theorem i_multisets_k7_ok {I6 : Sl → Int → World → Prop} {m6 : Sl → Int → World → Nat} {x17 : Int} {w0 w3 w4 : World} {n f : Nat} {next row : Sl} {c : List Int} {A : List (List Int)} {ss : List Sl} (hE : Ext w0 w4) (hr : R w0 row c) (hc : c.length ≤ 1000) (hA : RowsD w4 w0.heap.size T.t_int T.t_sl_int next A ss) (hn : n ≤ 1000) (hAl : A.length + n ≤ 1048576)
    (hk : ∀ next' w' ss', Ext w0 w' → RowsD w' w0.heap.size T.t_int T.t_sl_int next' (A ++ (labsFrom f n).map fun a => c ++ [a]) ss' → I6 next' (IntKind.i64.wrap (x17 + 1)) w' ∧ m6 next' (IntKind.i64.wrap (x17 + 1)) w' < m6 next x17 w3) :
    V_i_multisets_k7 I6 m6 x17 w3 (n : Int) next row (f : Int) w4 := by
  unfold V_i_multisets_k7
  refine ⟨fun (nx : Sl) (x : Int) w' => ∃ t : Nat, x = ((f + t : Nat) : Int) ∧ Ext w0 w' ∧ ∃ ss', RowsD w' w0.heap.size T.t_int T.t_sl_int nx (A ++ ((labsFrom f n).take t).map fun a => c ++ [a]) ss', fun _ x _ => n - x.toNat, ⟨0, by omega, hE, ss, by simpa using hA⟩, ?_⟩
  rintro nx _ w5 ⟨t, rfl, hE5, ss', hS⟩
  intros
  refine cond_dec (fun hlt => ?_) (fun hge => ?_)
  · have hlt' : f + t < n := by omega
    refine call (clone_ok (hr.ext hE5) (by omega)) ?_
    rintro x38 w6 ⟨hE6, hO6⟩
    refine add_one hE5 hr hc hS (by simp [labsFrom_len]; omega) (by unfold I64; omega) (fun next' w' ss2 hE' hS' => ?_) hE6 hO6
    rw [wrap_of (by omega) (by omega)]
    refine ⟨⟨t + 1, by omega, hE', ss2, ?_⟩, by simp only []; omega⟩
    rw [labsFrom_take hlt', List.map_append, ← List.append_assoc]
    exact hS'
  · have hl : (labsFrom f n).take t = labsFrom f n := List.take_of_length_le (by rw [labsFrom_len]; omega)
    rw [hl] at hS
    exact hk _ _ _ hE5 hS


theorem s_reChoices_k7_ok {I7 : Sl → Int → World → Prop} {m7 : Sl → Int → World → Nat} {x20 : Int} {w0 w3 w4 : World} {n f : Nat} {next row : Sl} {c : List Int} {A : List (List Int)} {ss : List Sl} (hE : Ext w0 w4) (hr : R w0 row c) (hc : c.length ≤ 1000) (hA : RowsD w4 w0.heap.size T.t_int T.t_sl_int next A ss) (hn : n ≤ 1000) (hAl : A.length + n ≤ 1048576)
    (hk : ∀ next' w' ss', Ext w0 w' → RowsD w' w0.heap.size T.t_int T.t_sl_int next' (A ++ (labsFrom f n).map fun a => c ++ [a]) ss' → I7 next' (IntKind.i64.wrap (x20 + 1)) w' ∧ m7 next' (IntKind.i64.wrap (x20 + 1)) w' < m7 next x20 w3) :
    V_s_reChoices_k7 I7 m7 x20 w3 (n : Int) next row (f : Int) w4 := by
  unfold V_s_reChoices_k7
  refine ⟨fun (nx : Sl) (x : Int) w' => ∃ t : Nat, x = ((f + t : Nat) : Int) ∧ Ext w0 w' ∧ ∃ ss', RowsD w' w0.heap.size T.t_int T.t_sl_int nx (A ++ ((labsFrom f n).take t).map fun a => c ++ [a]) ss', fun _ x _ => n - x.toNat, ⟨0, by omega, hE, ss, by simpa using hA⟩, ?_⟩
  rintro nx _ w5 ⟨t, rfl, hE5, ss', hS⟩
  intros
  refine cond_dec (fun hlt => ?_) (fun hge => ?_)
  · have hlt' : f + t < n := by omega
    refine call (l1Own_ok (hr.ext hE5) (by omega)) ?_
    rintro x38 w6 ⟨hE6, hO6⟩
    refine add_one hE5 hr hc hS (by simp [labsFrom_len]; omega) (by unfold I64; omega) (fun next' w' ss2 hE' hS' => ?_) hE6 hO6
    rw [wrap_of (by omega) (by omega)]
    refine ⟨⟨t + 1, by omega, hE', ss2, ?_⟩, by simp only []; omega⟩
    rw [labsFrom_take hlt', List.map_append, ← List.append_assoc]
    exact hS'
  · have hl : (labsFrom f n).take t = labsFrom f n := List.take_of_length_le (by rw [labsFrom_len]; omega)
    rw [hl] at hS
    exact hk _ _ _ hE5 hS


theorem msets_pre {n k : Nat} {i : Nat} : (((msets n k).take i).flatMap fun c => (labsFrom (lastOf c) n).map fun a => c ++ [a]).length ≤ i * n := by
  have hs : ∀ l : List (List Int), (l.flatMap fun c => (labsFrom (lastOf c) n).map fun a => c ++ [a]).length ≤ l.length * n := by
    intro l
    induction l with
    | nil => simp
    | cons c l ih =>
      rw [List.flatMap_cons, List.length_append, List.length_map, labsFrom_len, List.length_cons, Nat.succ_mul]
      omega
  refine Nat.le_trans (hs _) (Nat.mul_le_mul_right n ?_)
  rw [List.length_take]
  omega

theorem last_of_len {c : List Int} (hc : 0 < c.length) (h0 : ∀ x ∈ c, 0 ≤ x) : c[c.length - 1]'(by omega) = (lastOf c : Int) := by
  have e : c.getLastD 0 = c[c.length - 1]'(by omega) := by
    rw [List.getLastD_eq_getLast?, List.getLast?_eq_getElem?, List.getElem?_eq_getElem (by omega)]; rfl
  have := h0 _ (List.getElem_mem (show c.length - 1 < c.length by omega))
  unfold lastOf
  rw [e]
  omega

theorem multisets_ok {n k : Nat} (w : World) (hn : n ≤ 1000) (hk : k ≤ 1000) (hnk : ∀ j, j ≤ k → n ^ j ≤ 1048576 - 1000) :
    Calls Tryz.prog F.i_multisets #[.int .i64 n, .int .i64 k] w (Ret [.at .sl] fun (r : Sl) w' => Ext w w' ∧ ∃ ss, RowsD w' w.heap.size T.t_int T.t_sl_int r (msets n k) ss) := by
  refine C_i_multisets ?_
  unfold V_i_multisets
  refine RUN_lit1 (α := Sl) slt_rows ⟨none, 0, 0⟩ rfl (by decide) fun s0 w1 hE1 hO1 => ?_
  have hS1 : RowsD w1 w.heap.size T.t_int T.t_sl_int s0 (msets n 0) [⟨none, 0, 0⟩] := by
    refine ⟨hO1, rfl, fun i r l hr hl => ?_, fun i j r q hr hq hij b hb => ?_⟩
    · match i, hr, hl with
      | 0, hr, hl => simp [msets] at hr hl; subst hr; subst hl; exact OwnL.nil _ _ _
      | i + 1, hr, hl => simp at hr
    · match i, hr with
      | 0, hr => simp at hr; subst hr; cases hb
      | i + 1, hr => simp at hr
  refine ⟨fun (out : Sl) (x : Int) w' => ∃ j : Nat, x = j ∧ j ≤ k ∧ Ext w w' ∧ ∃ ss, RowsD w' w.heap.size T.t_int T.t_sl_int out (msets n j) ss, fun _ x _ => k - x.toNat, ⟨0, rfl, Nat.zero_le _, hE1, _, hS1⟩, ?_⟩
  rintro out _ w2 ⟨j, rfl, hj, hE2, ss, hS⟩
  intros
  have h64 : ∀ r ∈ msets n j, ∀ x ∈ r, I64 x := fun r hr x hx => by have := (mem_msets.1 hr).labs x hx; unfold I64; omega
  have hml := Nat.le_trans (msets_len n j) (hnk j hj)
  refine cond_dec (fun hlt => ?_) (fun hge => ?_)
  · have hjk : j < k := by omega
    have hpow := hnk (j + 1) hjk
    have hR := hS.rep h64
    rw [hR.len]
    have hz2 := hE2.size_le
    let I : Nat → Sl → World → Prop := fun i nx w' => Ext w2 w' ∧ ∃ ss', RowsD w' w2.heap.size T.t_int T.t_sl_int nx (((msets n j).take i).flatMap fun c => (labsFrom (lastOf c) n).map fun a => c ++ [a]) ss'
    refine ⟨IN2 (msets n j).length I, MN2 (msets n j).length, IN2_zero ⟨Ext.refl _, [], by simpa using RowsD.nil _ _ _ _⟩, ?_⟩
    rintro nx _ w3 ⟨i, rfl, hi, hE3, ss', hS3⟩
    intros
    refine cond_dec (fun hlt2 => ?_) (fun hge2 => ?_)
    · have hi' : i < (msets n j).length := by omega
      have hM := mem_msets.1 (List.getElem_mem hi')
      have hpre := msets_pre (n := n) (k := j) (i := i)
      have hmul : (i + 1) * n ≤ n ^ (j + 1) := by rw [Nat.pow_succ]; exact Nat.mul_le_mul_right n (by have := msets_len n j; omega)
      rw [Nat.succ_mul] at hmul
      refine hR.ixL0 hE3 hi' fun p row hrow0 hc => LD_sl hc ?_
      have hR1 := hrow0.ext hE3
      have hml' := hM.len
      have hgo : ∀ f : Nat, f = lastOf (msets n j)[i] → V_i_multisets_k7 (IN2 (msets n j).length I) (MN2 (msets n j).length) (i : Int) w3 (n : Int) nx row (f : Int) w3 := fun f hf => by
        subst hf
        refine i_multisets_k7_ok hE3 hrow0 (by omega) hS3 hn (by omega) fun next' w' ss2 hE' hS' => ?_
        refine IN2_next hR.le hi' ⟨hE', ss2, ?_⟩
        rw [List.take_succ_eq_append_getElem hi', List.flatMap_append]
        simpa using hS'
      refine cond_dec (fun h1 => ?_) (fun h1 => hgo 0 (by rw [List.length_eq_zero_iff.1 (show (msets n j)[i].length = 0 by rw [hR1.len] at h1; omega)]; rfl))
      rw [hR1.len] at h1 ⊢
      rw [wrap_of (by omega) (by omega)]
      have hlc := last_of_len (c := (msets n j)[i]) (by omega) fun x hx => (hM.labs x hx).1
      have e1 : ((((msets n j)[i].length : Nat) : Int)) - 1 = (((msets n j)[i].length - 1 : Nat) : Int) := by omega
      rw [e1]
      refine hR1.ixI (by omega) fun q _ hc => LD_int hc ?_
      rw [hlc]
      exact hgo _ rfl
    · have : i = (msets n j).length := by omega
      subst this
      rw [List.take_length] at hS3
      rw [wrap_of (by omega) (by omega)]
      exact ⟨⟨j + 1, by omega, hjk, hE2.trans hE3, ss', hS3.low hz2⟩, by simp only []; omega⟩
  · have : j = k := by omega
    subst this
    exact ⟨hE2, ss, hS⟩


theorem reChoices_ok {n k : Nat} (w : World) (hn : n ≤ 1000) (hk : k ≤ 1000) (hnk : ∀ j, j ≤ k → n ^ j ≤ 1048576 - 1000) :
    Calls Tryz.prog F.s_reChoices #[.int .i64 n, .int .i64 k] w (Ret [.at .sl] fun (r : Sl) w' => Ext w w' ∧ ∃ ss, RowsD w' w.heap.size T.t_int T.t_sl_int r (msets n k) ss) := by
  refine C_s_reChoices ?_
  unfold V_s_reChoices
  refine RUN_lit1 (α := Sl) slt_rows ⟨none, 0, 0⟩ rfl (by decide) fun s0 w1 hE1 hO1 => ?_
  have hS1 : RowsD w1 w.heap.size T.t_int T.t_sl_int s0 (msets n 0) [⟨none, 0, 0⟩] := by
    refine ⟨hO1, rfl, fun i r l hr hl => ?_, fun i j r q hr hq hij b hb => ?_⟩
    · match i, hr, hl with
      | 0, hr, hl => simp [msets] at hr hl; subst hr; subst hl; exact OwnL.nil _ _ _
      | i + 1, hr, hl => simp at hr
    · match i, hr with
      | 0, hr => simp at hr; subst hr; cases hb
      | i + 1, hr => simp at hr
  refine ⟨fun (out : Sl) (x : Int) w' => ∃ j : Nat, x = j ∧ j ≤ k ∧ Ext w w' ∧ ∃ ss, RowsD w' w.heap.size T.t_int T.t_sl_int out (msets n j) ss, fun _ x _ => k - x.toNat, ⟨0, rfl, Nat.zero_le _, hE1, _, hS1⟩, ?_⟩
  rintro out _ w2 ⟨j, rfl, hj, hE2, ss, hS⟩
  intros
  have h64 : ∀ r ∈ msets n j, ∀ x ∈ r, I64 x := fun r hr x hx => by have := (mem_msets.1 hr).labs x hx; unfold I64; omega
  have hml := Nat.le_trans (msets_len n j) (hnk j hj)
  refine cond_dec (fun hlt => ?_) (fun hge => ?_)
  · have hjk : j < k := by omega
    have hpow := hnk (j + 1) hjk
    have hR := hS.rep h64
    rw [hR.len]
    have hz2 := hE2.size_le
    let I : Nat → Sl → World → Prop := fun i nx w' => Ext w2 w' ∧ ∃ ss', RowsD w' w2.heap.size T.t_int T.t_sl_int nx (((msets n j).take i).flatMap fun c => (labsFrom (lastOf c) n).map fun a => c ++ [a]) ss'
    refine ⟨IN2 (msets n j).length I, MN2 (msets n j).length, IN2_zero ⟨Ext.refl _, [], by simpa using RowsD.nil _ _ _ _⟩, ?_⟩
    rintro nx _ w3 ⟨i, rfl, hi, hE3, ss', hS3⟩
    intros
    refine cond_dec (fun hlt2 => ?_) (fun hge2 => ?_)
    · have hi' : i < (msets n j).length := by omega
      have hM := mem_msets.1 (List.getElem_mem hi')
      have hpre := msets_pre (n := n) (k := j) (i := i)
      have hmul : (i + 1) * n ≤ n ^ (j + 1) := by rw [Nat.pow_succ]; exact Nat.mul_le_mul_right n (by have := msets_len n j; omega)
      rw [Nat.succ_mul] at hmul
      refine hR.ixL0 hE3 hi' fun p row hrow0 hc => LD_sl hc ?_
      have hR1 := hrow0.ext hE3
      have hml' := hM.len
      have hgo : ∀ f : Nat, f = lastOf (msets n j)[i] → V_s_reChoices_k7 (IN2 (msets n j).length I) (MN2 (msets n j).length) (i : Int) w3 (n : Int) nx row (f : Int) w3 := fun f hf => by
        subst hf
        refine s_reChoices_k7_ok hE3 hrow0 (by omega) hS3 hn (by omega) fun next' w' ss2 hE' hS' => ?_
        refine IN2_next hR.le hi' ⟨hE', ss2, ?_⟩
        rw [List.take_succ_eq_append_getElem hi', List.flatMap_append]
        simpa using hS'
      refine cond_dec (fun h1 => ?_) (fun h1 => hgo 0 (by rw [List.length_eq_zero_iff.1 (show (msets n j)[i].length = 0 by omega)]; rfl))
      skip
      rw [wrap_of (by omega) (by omega)]
      have hlc := last_of_len (c := (msets n j)[i]) (by omega) fun x hx => (hM.labs x hx).1
      have e1 : (j : Int) - 1 = (((msets n j)[i].length - 1 : Nat) : Int) := by omega
      rw [e1]
      refine hR1.ixI (by omega) fun q _ hc => LD_int hc ?_
      rw [hlc]
      exact hgo _ rfl
    · have : i = (msets n j).length := by omega
      subst this
      rw [List.take_length] at hS3
      rw [wrap_of (by omega) (by omega)]
      exact ⟨⟨j + 1, by omega, hjk, hE2.trans hE3, ss', hS3.low hz2⟩, by simp only []; omega⟩
  · have : j = k := by omega
    subst this
    exact ⟨hE2, ss, hS⟩


/-! ### Lists that are good -/

theorem allowedBy_ok {w : World} {n k : Nat} {f : Fn} {t cc : Array Value} {p : List Int → Bool} (hn : n ≤ 1000) (hk : k ≤ 1000) (hnk : ∀ j, j ≤ k → n ^ j ≤ 1048576 - 1000)
    (hf : ∀ c, InM n k c → ∀ w' (s : Sl), Ext w w' → R w' s c → CALLV Tryz.prog (.func f t cc) #[s.v] w' (Ret [.at .bool] fun (b : Bool) w'' => b = p c ∧ Ext w' w'')) :
    Calls Tryz.prog F.i_allowedBy #[.int .i64 n, .int .i64 k, .func f t cc] w (Ret [.at .sl] fun (r : Sl) w' => Ext w w' ∧ ∃ ss, RowsD w' w.heap.size T.t_int T.t_sl_int r ((msets n k).filter p) ss) := by
  refine C_i_allowedBy ?_
  unfold V_i_allowedBy
  refine NEW_intro fun pg w1 hpg hs1 hE1 hb1 => ?_
  refine call (multisets_ok w1 hn hk hnk) ?_
  rintro r w2 ⟨hE2, ss, hM⟩
  obtain ⟨c, hcL, hR⟩ := RowsC.of hM
  have hmem : ∀ x ∈ ss, InM n k (c x) := fun x hx => mem_msets.1 (by rw [← hcL]; exact List.mem_map.2 ⟨x, hx, rfl⟩)
  have h64 : ∀ x ∈ ss, ∀ y ∈ c x, I64 y := fun x hx y hy => by have := (hmem x hx).labs y hy; unfold I64; omega
  have hlen := hM.len
  have hml := Nat.le_trans (msets_len n k) (hnk k (Nat.le_refl _))
  have hE12 := hE1.trans hE2
  have hof : ∀ b, oB r b → w.heap.size ≤ b := fun b hb => by have := (hR.own.blk b hb).1; have := hE1.size_le; omega
  refine call (deleteFuncS_ok (p := fun x => !p (c x)) hR.own (by omega) fun x hx w' hC => ?_) ?_
  · refine CALLV_mk (by kernel_rfl) (C_i_allowedBy_1 ?_)
    unfold V_i_allowedBy_1
    refine LD_val (((hb1.ext hE2).chg hC ((hb1.ext hE2).notOwn hR.own (by decide))).cell (i := 0) rfl) ?_
    refine callv (hf (c x) (hmem x hx) w' x (hC.ext0 hE12 hof) ((hR.rd h64 hx).chg hC fun b hb _ => hb).any) ?_
    rintro b w'' ⟨rfl, hE''⟩
    exact ⟨rfl, hE''⟩
  · rintro r2 w3 ⟨hC3, hO3, hra⟩
    have hf2 : (ss.filter fun x => !(!p (c x))) = ss.filter (p ∘ c) := by congr 1; funext x; simp
    rw [hf2] at hO3
    have hR3 : RowsC w3 w1.heap.size r2 (ss.filter (p ∘ c)) c := hR.chg hC3 hO3 (fun x hx => (List.mem_filter.1 hx).1) (hR.apart.sublist (List.filter_sublist ..))
    have hD := hR3.to
    rw [← List.filter_map, hcL] at hD
    exact ⟨hC3.ext0 hE12 hof, _, hD.low hE1.size_le⟩

/-! ### What labels of a product stand for -/

theorem Apt.new {w : World} {base : Nat} {s s' t : Sl} {l : List Int} (h : Apt s t) (ht : OwnL w base T.t_int t l) (hn : NewOr w s s') : Apt s' t := fun k hk hk' => by
  rcases hn with h1 | h1
  · exact h k (by rw [← h1]; exact hk) hk'
  · have h2 := h1 k hk
    have h3 := (ht.blk k hk').2
    omega

theorem app_first {w : World} {base : Nat} {s t y : Sl} {A B : List Int} {v : Int} (hA : OwnL w base T.t_int s A) (hB : OwnL w base T.t_int t B) (hap : Apt s t) (hbase : base ≤ w.heap.size) (hy : R w y [v]) (hl : A.length < 1048576) {K : Sl → World → Prop}
    (hk : ∀ s' w', OwnL w' base T.t_int s' (A ++ [v]) → OwnL w' base T.t_int t B → Apt s' t → Chg w w' (fun b => base ≤ b) → Step w w' s.v.ownBlock → K s' w') : RUN Tryz.prog (.at .sl) (bsem .append #[T.t_sl_int, T.t_sl_int] T.t_sl_int #[s.v, y.v]) w K :=
  RUN_appendF (α := Int) slt_int hA hbase hy (by simp; omega) (by simp [maxLen]; omega) fun s' w' hA' hs hn =>
    hk s' w' hA' (hB.keep fun k hk => hs.block k (hB.blk k hk).2 fun he => hap k he.symm hk) (hap.new hB hn) (.of_step hs fun k hk => (hA.blk k hk).1) hs

def Divs (w : World) (base : Nat) (k : Int) (l : List Int) (i : Nat) (a b : Sl) (w' : World) : Prop :=
  Ext w w' ∧ OwnL w' base T.t_int a (firsts k (l.take i)) ∧ OwnL w' base T.t_int b (seconds k (l.take i)) ∧ Apt a b

theorem div_I64 {x k : Int} (hx : 0 ≤ x ∧ x ≤ 1000) (hk : 1 ≤ k) : I64 (Int.tdiv x k) ∧ I64 (Int.tmod x k) ∧ IntKind.i64.wrap (Int.tdiv x k) = Int.tdiv x k := by
  obtain ⟨n, rfl⟩ := Int.eq_ofNat_of_zero_le hx.1
  obtain ⟨m, rfl⟩ := Int.eq_ofNat_of_zero_le (show 0 ≤ k by omega)
  have e1 : Int.tdiv (n : Int) (m : Int) = ((n / m : Nat) : Int) := by rw [Int.ofNat_tdiv]
  have e2 : Int.tmod (n : Int) (m : Int) = ((n % m : Nat) : Int) := by rw [Int.ofNat_tmod]
  have h1 : n / m ≤ n := Nat.div_le_self _ _
  have h2 : n % m ≤ n := Nat.mod_le _ _
  rw [e1, e2]
  generalize n / m = a at h1
  generalize n % m = b at h2
  unfold I64
  refine ⟨by omega, by omega, wrap_of (by omega) (by omega)⟩

theorem parts_ok {w : World} {s : Sl} {l : List Int} {k : Int} (h : R w s l) (hl : l.length ≤ 1048576) (hv : ∀ x ∈ l, 0 ≤ x ∧ x ≤ 1000) (hk : 1 ≤ k) :
    Calls Tryz.prog F.i_parts #[s.v, .int .i64 k] w (Ret [.at .sl, .at .sl] fun (a b : Sl) w' => Ext w w' ∧ OwnL w' w.heap.size T.t_int a (firsts k l) ∧ OwnL w' w.heap.size T.t_int b (seconds k l) ∧ Apt a b) := by
  refine C_i_parts ?_
  unfold V_i_parts
  rw [h.len]
  refine ⟨fun (a b : Sl) (x : Int) w' => ∃ i : Nat, x = i ∧ i ≤ l.length ∧ Divs w w.heap.size k l i a b w', fun _ _ x _ => l.length - x.toNat, ⟨0, rfl, Nat.zero_le _, Ext.refl _, OwnL.nil _ _ _, OwnL.nil _ _ _, fun k hk => by cases hk⟩, ?_⟩
  rintro a b _ w1 ⟨i, rfl, hi, hE1, hA, hB, hap⟩
  intros
  have hst : ∀ j, j ≤ l.length → (firsts k (l.take j)).length = j ∧ (seconds k (l.take j)).length = j := fun j hj => by simp [firsts, seconds]; omega
  refine cond_dec (fun hlt => ?_) (fun hge => ?_)
  · have hi' : i < l.length := by omega
    refine (h.ext hE1).ixI hi' fun q _ hc => LD_int hc ?_
    obtain ⟨hd1, hd2, hd3⟩ := div_I64 (hv _ (List.getElem_mem hi')) hk
    rw [hd3]
    have hl1 := hst i hi
    have o1 : ∀ {v : Int}, I64 v → ∀ x ∈ [v], Flat.ok x := fun hv x hx => by rw [List.mem_singleton.1 hx]; exact hv
    intro w2 hE2 _
    have hE02 := hE1.trans hE2
    have hz := hE02.size_le
    have hA2 := hA.ext hE2
    have hB2 := hB.ext hE2
    have hfin : ∀ {a' b' : Sl} {w' : World}, Chg w2 w' (fun b => w.heap.size ≤ b) → OwnL w' w.heap.size T.t_int a' (firsts k (l.take i) ++ [Int.tdiv l[i] k]) → OwnL w' w.heap.size T.t_int b' (seconds k (l.take i) ++ [Int.tmod l[i] k]) → Apt a' b' →
        (∃ j : Nat, IntKind.i64.wrap ((i : Int) + 1) = j ∧ j ≤ l.length ∧ Divs w w.heap.size k l j a' b' w') ∧ l.length - (IntKind.i64.wrap ((i : Int) + 1)).toNat < l.length - ((i : Int)).toNat := fun {a' b' w'} hC ha hb hap' => by
      rw [wrap_of (by omega) (by omega)]
      refine ⟨⟨i + 1, by omega, hi', hC.ext0 hE02 fun _ hb => hb, ?_, ?_, hap'⟩, by omega⟩
      · unfold firsts at ha ⊢; rw [map_take_succ hi']; exact ha
      · unfold seconds at hb ⊢; rw [map_take_succ hi']; exact hb
    refine ⟨fun b => w.heap.size ≤ b, by omega, by omega, ?_, ?_⟩
    · refine RUN_lit1 (α := Int) slt_int _ rfl (by decide) fun x3 w3 hE3 hO3 => ⟨.of_ext hE3, ?_, ?_⟩
      · refine app_first (hA2.ext hE3) (hB2.ext hE3) hap (by have := hE3.size_le; omega) (hO3.rep (o1 hd1)).any (by omega) fun a' w4 hA4 hB4 hap4 hC4 hs4 => ?_
        have hC24 := (Chg.of_ext hE3).trans hC4
        have hz4 := hC24.size
        refine ⟨hC24, ?_⟩
        refine RUN_lit1 (α := Int) slt_int _ rfl (by decide) fun x5 w5 hE5 hO5 => ⟨hC24.trans (.of_ext hE5), ?_⟩
        refine app_first (hB4.ext hE5) (hA4.ext hE5) hap4.symm (by have := hE5.size_le; omega) (hO5.rep (o1 hd2)).any (by omega) fun b' w6 hB6 hA6 hap6 hC6 _ => ?_
        have hC26 := (hC24.trans (.of_ext hE5)).trans hC6
        exact ⟨hC26, hC26, hC26, hfin hC26 hA6 hB6 hap6.symm⟩
      · refine RUN_lit1 (α := Int) slt_int _ rfl (by decide) fun x5 w5 hE5 hO5 => ⟨.of_ext (hE3.trans hE5), ?_⟩
        refine app_first ((hA2.ext hE3).ext hE5) ((hB2.ext hE3).ext hE5) hap (by have := hE3.size_le; have := hE5.size_le; omega) ((hO3.ext hE5).rep (o1 hd1)).any (by omega) fun a' w4 hA4 hB4 hap4 hC4 hs4 => ?_
        have hC24 := (Chg.of_ext (hE3.trans hE5)).trans hC4
        have hz4 := hC24.size
        refine ⟨hC24, ?_⟩
        have hO6 : OwnL w4 w3.heap.size T.t_int x5 [Int.tmod l[i] k] := hO5.keep fun b hb => hs4.block b (hO5.blk b hb).2 fun he => by
          have h1 := ((hA2.ext hE3).blk b he.symm).2
          have h2 := (hO5.blk b hb).1
          omega
        refine app_first hB4 hA4 hap4.symm (by omega) (hO6.rep (o1 hd2)).any (by omega) fun b' w6 hB6 hA6 hap6 hC6 _ => ?_
        have hC26 := hC24.trans hC6
        exact ⟨hC26, hC26, hC26, hfin hC26 hA6 hB6 hap6.symm⟩
    · refine RUN_lit1 (α := Int) slt_int _ rfl (by decide) fun x5 w3 hE3 hO3 => ⟨.of_ext hE3, ?_⟩
      refine RUN_lit1 (α := Int) slt_int _ rfl (by decide) fun x3 w5 hE5 hO5 => ⟨.of_ext (hE3.trans hE5), ?_⟩
      refine app_first ((hA2.ext hE3).ext hE5) ((hB2.ext hE3).ext hE5) hap (by have := hE3.size_le; have := hE5.size_le; omega) (hO5.rep (o1 hd1)).any (by omega) fun a' w4 hA4 hB4 hap4 hC4 hs4 => ?_
      have hC24 := (Chg.of_ext (hE3.trans hE5)).trans hC4
      have hz4 := hC24.size
      refine ⟨hC24, ?_⟩
      have hO6 : OwnL w4 w2.heap.size T.t_int x5 [Int.tmod l[i] k] := (hO3.ext hE5).keep fun b hb => hs4.block b ((hO3.ext hE5).blk b hb).2 fun he => by
        have h1 := (hA2.blk b he.symm).2
        have h2 := (hO3.blk b hb).1
        omega
      refine app_first hB4 hA4 hap4.symm (by omega) (hO6.rep (o1 hd2)).any (by omega) fun b' w6 hB6 hA6 hap6 hC6 _ => ?_
      have hC26 := hC24.trans hC6
      exact ⟨hC26, hC26, hC26, hfin hC26 hA6 hB6 hap6.symm⟩
  · have : i = l.length := by omega
    subst this
    rw [List.take_length] at hA hB
    exact ⟨hE1, hA, hB, hap⟩

end Go.Proofs.YtlmiookpmneicaaGreat
end

section
/- Products of problems and what their labelings stand for, both sides. -/
namespace Go.GX
open Go.RowKit

theorem RUN_append_rowG {α : Type} [Flat α] {P : Program} {t e e' : TypeId} {bytes : Nat} {z : Value} (hT : SlT P t e' 1 bytes z) (hne : e ≠ e') {w : World} {base b1 : Nat} {s y r : Sl} {ls : List (List α)} {l : List α} (h : Own2 w base e e' s ls) (hbase : base ≤ w.heap.size)
    (hr : OwnL w base e r l) (hy : OwnL w b1 e' y [r]) (hlen : (ls.length + 1) * bytes ≤ 140737488355328) (hmax : ls.length + 1 ≤ maxLen) {K : Sl → World → Prop}
    (hk : ∀ s' w', Own2 w' base e e' s' (ls ++ [l]) → Step w w' s.v.ownBlock → NewOr w s s' → K s' w') : RUN P (.at .sl) (bsem .append #[t, t] t #[s.v, y.v]) w K := by
  obtain ⟨ss, h1, h2, h3⟩ := h
  refine RUN_appendF (α := Sl) hT h1 hbase (hy.rep fun _ _ => trivial).any (by simp [h2]; exact hlen) (by simp [h2]; exact hmax) fun s' w' hO hs hn => hk s' w' ⟨ss ++ [r], hO, by simp [h2], fun i q m hq hm => ?_⟩ hs hn
  by_cases hi : i < ss.length
  · rw [List.getElem?_append_left hi] at hq
    rw [List.getElem?_append_left (by omega)] at hm
    exact (h3 i q m hq hm).step h1 hne hs
  · rw [List.getElem?_append_right (by omega)] at hq
    rw [List.getElem?_append_right (by omega), ← h2] at hm
    have : i - ss.length = 0 := by
      have := (List.getElem?_eq_some_iff.1 hq).1
      simp at this; omega
    rw [this] at hq hm
    simp at hq hm
    subst hq; subst hm
    exact hr.step h1 hne hs

end Go.GX
namespace Go.Proofs.YtlmiookpmneicaaGreat
open Go.GX Go.RowKit
set_option maxRecDepth 100000

theorem reHalves_ok {w : World} {s : Sl} {l : List Int} {k : Int} (h : R w s l) (hl : l.length ≤ 1048576) (hv : ∀ x ∈ l, 0 ≤ x ∧ x ≤ 1000) (hk : 1 ≤ k) :
    Calls Tryz.prog F.s_reHalves #[s.v, .int .i64 k] w (Ret [.at .sl, .at .sl] fun (a b : Sl) w' => Ext w w' ∧ OwnL w' w.heap.size T.t_int a (firsts k l) ∧ OwnL w' w.heap.size T.t_int b (seconds k l) ∧ Apt a b) := by
  refine C_s_reHalves ?_
  unfold V_s_reHalves
  rw [h.len]
  refine ⟨fun (a b : Sl) (x : Int) w' => ∃ i : Nat, x = i ∧ i ≤ l.length ∧ Divs w w.heap.size k l i a b w', fun _ _ x _ => l.length - x.toNat, ⟨0, rfl, Nat.zero_le _, Ext.refl _, OwnL.nil _ _ _, OwnL.nil _ _ _, fun k hk => by cases hk⟩, ?_⟩
  rintro a b _ w1 ⟨i, rfl, hi, hE1, hA, hB, hap⟩
  intros
  have hst : ∀ j, j ≤ l.length → (firsts k (l.take j)).length = j ∧ (seconds k (l.take j)).length = j := fun j hj => by simp [firsts, seconds]; omega
  refine cond_dec (fun hlt => ?_) (fun hge => ?_)
  · have hi' : i < l.length := by omega
    refine (h.ext hE1).ixI hi' fun q _ hc => LD_int hc ?_
    obtain ⟨hd1, hd2, hd3⟩ := div_I64 (hv _ (List.getElem_mem hi')) hk
    rw [hd3]
    have hl1 := hst i hi
    have o1 : ∀ {v : Int}, I64 v → ∀ x ∈ [v], Flat.ok x := fun hv x hx => by rw [List.mem_singleton.1 hx]; exact hv
    have hz := hE1.size_le
    refine ⟨by omega, ?_⟩
    refine RUN_lit1 (α := Int) slt_int _ rfl (by decide) fun x3 w3 hE3 hO3 => ?_
    refine app_first (hA.ext hE3) (hB.ext hE3) hap (by have := hE3.size_le; omega) (hO3.rep (o1 hd1)).any (by omega) fun a' w4 hA4 hB4 hap4 hC4 _ => ⟨by omega, ?_⟩
    have hC24 := (Chg.of_ext hE3).trans hC4
    have hz4 := hC24.size
    refine RUN_lit1 (α := Int) slt_int _ rfl (by decide) fun x5 w5 hE5 hO5 => ?_
    refine app_first (hB4.ext hE5) (hA4.ext hE5) hap4.symm (by have := hE5.size_le; omega) (hO5.rep (o1 hd2)).any (by omega) fun b' w6 hB6 hA6 hap6 hC6 _ => ?_
    have hC26 := (hC24.trans (.of_ext hE5)).trans hC6
    rw [wrap_of (by omega) (by omega)]
    refine ⟨⟨i + 1, by omega, hi', hC26.ext0 hE1 fun _ hb => hb, ?_, ?_, hap6.symm⟩, by simp only []; omega⟩
    · unfold firsts at hA6 ⊢; rw [map_take_succ hi']; exact hA6
    · unfold seconds at hB6 ⊢; rw [map_take_succ hi']; exact hB6
  · have : i = l.length := by omega
    subst this
    rw [List.take_length] at hA hB
    exact ⟨hE1, hA, hB, hap⟩

theorem fs_I64 {k : Int} {l : List Int} (hv : ∀ x ∈ l, 0 ≤ x ∧ x ≤ 1000) (hk : 1 ≤ k) : (∀ x ∈ firsts k l, I64 x) ∧ ∀ x ∈ seconds k l, I64 x := by
  constructor
  · intro x hx
    obtain ⟨y, hy, rfl⟩ := List.mem_map.1 hx
    exact (div_I64 (hv y hy) hk).1
  · intro x hx
    obtain ⟨y, hy, rfl⟩ := List.mem_map.1 hx
    exact (div_I64 (hv y hy) hk).2.1

theorem filter_take_succ {α : Type} {l : List α} {i : Nat} (hi : i < l.length) (p : α → Bool) : (l.take (i + 1)).filter p = (l.take i).filter p ++ (if p l[i] then [l[i]] else []) := by
  rw [List.take_succ_eq_append_getElem hi, List.filter_append]
  by_cases h : p l[i] = true
  · simp [h]
  · simp [h]

theorem reProduct_ok {w : World} {s t : Sl} {L M : List (List Int)} {n k : Nat} {d : Int} (h : R w s L) (h' : R w t M) (hn : n ≤ 1000) (hk : k ≤ 1000) (hnk : ∀ j, j ≤ k → n ^ j ≤ 1048576 - 1000) (hd : 1 ≤ d) :
    Calls Tryz.prog F.s_reProduct #[s.v, t.v, .int .i64 n, .int .i64 k, .int .i64 d] w (Ret [.at .sl] fun (r : Sl) w' => Ext w w' ∧ ∃ base, w.heap.size ≤ base ∧ Own2 w' base T.t_int T.t_sl_int r ((msets n k).filter fun c => decide (sortI (firsts d c) ∈ L) && decide (sortI (seconds d c) ∈ M))) := by
  refine C_s_reProduct ?_
  unfold V_s_reProduct
  refine call (reChoices_ok w hn hk hnk) ?_
  rintro x w1 ⟨hE1, ss, hM⟩
  have hmem : ∀ c ∈ msets n k, ∀ x ∈ c, 0 ≤ x ∧ x ≤ 1000 := fun c hc x hx => by have := (mem_msets.1 hc).labs x hx; omega
  have h64 : ∀ r ∈ msets n k, ∀ x ∈ r, I64 x := fun r hr x hx => by have := hmem r hr x hx; unfold I64; omega
  have hml := Nat.le_trans (msets_len n k) (hnk k (Nat.le_refl _))
  have hR := hM.rep h64
  rw [hR.len]
  let p : List Int → Bool := fun c => decide (sortI (firsts d c) ∈ L) && decide (sortI (seconds d c) ∈ M)
  have hz1 := hE1.size_le
  refine ⟨IN2 (msets n k).length fun i (out : Sl) w' => Ext w1 w' ∧ Own2 w' w.heap.size T.t_int T.t_sl_int out (((msets n k).take i).filter p) ∧ ∀ b, oB out b → w1.heap.size ≤ b, MN2 (msets n k).length, IN2_zero ⟨Ext.refl _, by simpa using Own2.nil _ _ _ _, fun b hb => by cases hb⟩, ?_⟩
  rintro out _ w2 ⟨i, rfl, hi, hE2, hO, hob⟩
  intros
  refine cond_dec (fun hlt => ?_) (fun hge => ?_)
  · have hi' : i < (msets n k).length := by omega
    have hlen := (mem_msets.1 (List.getElem_mem hi')).len
    have hvi := hmem _ (List.getElem_mem hi')
    obtain ⟨hf1, hf2⟩ := fs_I64 hvi hd
    refine (hM.ext hE2).ix hi' fun q row hrow hOr hc _ => LD_sl hc ?_
    refine call (reHalves_ok (hOr.rep (h64 _ (List.getElem_mem hi'))).any (by omega) hvi hd) ?_
    rintro a b w3 ⟨hE3, hA, hB, _⟩
    have hfl : (firsts d (msets n k)[i]).length = k := by simp [firsts, hlen]
    have hsl : (seconds d (msets n k)[i]).length = k := by simp [seconds, hlen]
    refine call (prSorted_ok (hA.rep hf1).any (by omega)) ?_
    rintro x4 w4 ⟨hE4, hO4⟩
    have hE24 := hE3.trans hE4
    refine call (prHas_ok (((h.ext hE1).ext hE2).ext hE24) (hO4.rep (sortI_I64 hf1)).any) ?_
    rintro _ w5 ⟨rfl, hE5⟩
    have hE25 := hE24.trans hE5
    have hno : ∀ {w'}, Ext w2 w' → p (msets n k)[i] = false → IN2 (msets n k).length (fun i (out : Sl) w' => Ext w1 w' ∧ Own2 w' w.heap.size T.t_int T.t_sl_int out (((msets n k).take i).filter p) ∧ ∀ b, oB out b → w1.heap.size ≤ b) out (IntKind.i64.wrap ((i : Int) + 1)) w' ∧ MN2 (msets n k).length out (IntKind.i64.wrap ((i : Int) + 1)) w' < MN2 (msets n k).length out (i : Int) w2 := fun {w'} hE' hp => by
      refine IN2_next hR.le hi' ⟨hE2.trans hE', ?_, hob⟩
      rw [filter_take_succ hi', hp]
      simpa using hO.ext hE'
    refine cond_dec (fun hin => ?_) (fun hnin => hno hE25 (by simp [p, hnin]))
    refine call (prSorted_ok ((hB.ext (hE4.trans hE5)).rep hf2).any (by omega)) ?_
    rintro x6 w6 ⟨hE6, hO6⟩
    have hE26 := hE25.trans hE6
    refine call (prHas_ok (((h'.ext hE1).ext hE2).ext hE26) (hO6.rep (sortI_I64 hf2)).any) ?_
    rintro _ w7 ⟨rfl, hE7⟩
    have hE27 := hE26.trans hE7
    refine cond_dec (fun hin2 => ?_) (fun hnin2 => hno hE27 (by simp [p, hnin2]))
    refine RUN_lit1 (α := Sl) slt_rows row rfl (by decide) fun y w8 hE8 hO8 => ?_
    have hE28 := hE27.trans hE8
    have hO28 := hO.ext hE28
    have hz2 := hE2.size_le
    have hz8 := hE28.size_le
    have hfl2 : (((msets n k).take i).filter p).length ≤ i := Nat.le_trans (List.length_filter_le _ _) (by rw [List.length_take]; omega)
    have hg : ∀ b, out.v.ownBlock = some b → w1.heap.size ≤ b := hob
    refine RUN_append_rowG slt_rows (by decide) hO28 (by omega) (hOr.ext hE28) hO8 (by omega) (by unfold maxLen; omega) fun s' w9 hO9 hs9 hn9 => ?_
    refine IN2_next hR.le hi' ⟨hs9.ext0 (hE2.trans hE28) fun b hb => hob b hb, ?_, fun b hb => ?_⟩
    · rw [filter_take_succ hi', show p (msets n k)[i] = true by simp [p, hin, hin2]]
      exact hO9
    · rcases hn9 with h1 | h1
      · exact hob b (by unfold oB at hb ⊢; rw [← h1]; exact hb)
      · have := h1 b hb; omega
  · have : i = (msets n k).length := by omega
    subst this
    rw [List.take_length] at hO
    exact ⟨hE1.trans hE2, _, Nat.le_refl _, hO⟩

/-! ### The product -/

theorem pow_small {n k : Nat} (hn : n ≤ 8) (hk : k ≤ 4) : ∀ j, j ≤ k → n ^ j ≤ 1048576 - 1000 := fun j hj => by
  have h1 : n ^ j ≤ 8 ^ j := Nat.pow_le_pow_left hn j
  have h2 : 8 ^ j ≤ 8 ^ 4 := Nat.pow_le_pow_right (by decide) (by omega)
  have h3 : 8 ^ 4 = 4096 := by decide
  omega

theorem inM_1000 {n k : Nat} {c : List Int} (h : InM n k c) (hn : n ≤ 1000) : ∀ x ∈ c, 0 ≤ x ∧ x ≤ 1000 := fun x hx => by have := h.labs x hx; omega

theorem product1_ok {w w' : World} {c d c' d' s : Sl} {p q : Prob} {pp pq : Addr} {t : TypeId} {n k : Nat} {l : List Int} (h : RProb w c d p) (h' : RProb w c' d' q) (hp : PGood p) (hq : PGood q) (hsp : SmallP p) (hsq : SmallP q)
    (hbp : Box w pp t [.int .i64 p.labels, .int .i64 p.degree, c.v, d.v]) (hbq : Box w pq t [.int .i64 q.labels, .int .i64 q.degree, c'.v, d'.v]) (hn : n ≤ 1000) (hk : k ≤ 1000) (hM : InM n k l) (hE : Ext w w') (hl : R w' s l) :
    CALLV Tryz.prog (.func (.func F.i_ProductProblem_1) #[] #[.pointer (some pq), .pointer (some pp)]) #[s.v] w' (Ret [.at .bool] fun (b : Bool) w'' => b = (decide (sortI (firsts q.labels l) ∈ p.nodes) && decide (sortI (seconds q.labels l) ∈ q.nodes)) ∧ Ext w' w'') := by
  refine CALLV_mk (by kernel_rfl) (C_i_ProductProblem_1 ?_)
  unfold V_i_ProductProblem_1
  replace h := h.ext hE
  replace h' := h'.ext hE
  replace hbp := hbp.ext hE
  replace hbq := hbq.ext hE
  have hlen := hM.len
  have hlq := hq.lab
  have hv := inM_1000 hM hn
  obtain ⟨hf1, hf2⟩ := fs_I64 hv hlq.1
  refine LD_bi0 hbq ?_
  refine call (parts_ok hl (by omega) hv hlq.1) ?_
  rintro a b w1 ⟨hE1, hA, hB, _⟩
  replace h := h.ext hE1
  replace h' := h'.ext hE1
  replace hbp := hbp.ext hE1
  replace hbq := hbq.ext hE1
  refine LD_iiss hbp ?_
  refine call (node_ok h hsp hp (hA.rep hf1).any (by simp [firsts]; omega)) ?_
  rintro x w2 ⟨hx, hE2⟩
  have hE12 := hE1.trans hE2
  have ex : x = nodeB p (firsts q.labels l) := bool_of hx nodeB_iff
  subst ex
  refine cond_dec (fun hin => LD_iiss (hbq.ext hE2) ?_) (fun hnin => ⟨by simp [hnin], hE12⟩)
  refine call (node_ok (h'.ext hE2) hsq hq ((hB.ext hE2).rep hf2).any (by simp [seconds]; omega)) ?_
  rintro y w3 ⟨hy, hE3⟩
  have ey : y = nodeB q (seconds q.labels l) := bool_of hy nodeB_iff
  subst ey
  exact ⟨by simp [hin, nodeB], hE12.trans hE3⟩

theorem product2_ok {w w' : World} {c d c' d' s : Sl} {p q : Prob} {pp pq : Addr} {t : TypeId} {n : Nat} {l : List Int} (h : RProb w c d p) (h' : RProb w c' d' q) (hp : PGood p) (hq : PGood q) (hsp : SmallP p) (hsq : SmallP q)
    (hbp : Box w pp t [.int .i64 p.labels, .int .i64 p.degree, c.v, d.v]) (hbq : Box w pq t [.int .i64 q.labels, .int .i64 q.degree, c'.v, d'.v]) (hn : n ≤ 1000) (hM : InM n 2 l) (hE : Ext w w') (hl : R w' s l) :
    CALLV Tryz.prog (.func (.func F.i_ProductProblem_2) #[] #[.pointer (some pq), .pointer (some pp)]) #[s.v] w' (Ret [.at .bool] fun (b : Bool) w'' => b = (decide (sortI (firsts q.labels l) ∈ p.edges) && decide (sortI (seconds q.labels l) ∈ q.edges)) ∧ Ext w' w'') := by
  refine CALLV_mk (by kernel_rfl) (C_i_ProductProblem_2 ?_)
  unfold V_i_ProductProblem_2
  replace h := h.ext hE
  replace h' := h'.ext hE
  replace hbp := hbp.ext hE
  replace hbq := hbq.ext hE
  have hlen := hM.len
  have hlq := hq.lab
  have hv := inM_1000 hM hn
  obtain ⟨hf1, hf2⟩ := fs_I64 hv hlq.1
  refine LD_bi0 hbq ?_
  refine call (parts_ok hl (by omega) hv hlq.1) ?_
  rintro a b w1 ⟨hE1, hA, hB, _⟩
  replace h := h.ext hE1
  replace h' := h'.ext hE1
  replace hbp := hbp.ext hE1
  replace hbq := hbq.ext hE1
  have hRA := (hA.rep hf1).any
  have hRB := (hB.rep hf2).any
  have hfl : (firsts q.labels l).length = 2 := by simp [firsts, hlen]
  have hsl : (seconds q.labels l).length = 2 := by simp [seconds, hlen]
  generalize firsts q.labels l = F1 at *
  generalize seconds q.labels l = S1 at *
  match F1, hfl, S1, hsl with
  | [a0, a1], _, [b0, b1], _ =>
    have i1 := hf1 a0 (by simp)
    have i2 := hf1 a1 (by simp)
    have i3 := hf2 b0 (by simp)
    have i4 := hf2 b1 (by simp)
    refine LD_iiss hbp ?_
    refine hRA.ixI (i := 0) (by simp) fun q1 _ hc => LD_int hc ?_
    refine hRA.ixI (i := 1) (by simp) fun q1 _ hc => LD_int hc ?_
    refine QCALL_bool (edgeB p a0 a1) (edgeQ h hsp hp i1 i2) ?_
    refine cond_dec (fun hin => LD_iiss hbq ?_) (fun hnin w3 hE3 => ⟨by simp [hnin], hE1.trans hE3⟩)
    refine hRB.ixI (i := 0) (by simp) fun q1 _ hc => LD_int hc ?_
    refine hRB.ixI (i := 1) (by simp) fun q1 _ hc => LD_int hc ?_
    refine QCALL_bool (edgeB q b0 b1) (edgeQ h' hsq hq i3 i4) ?_
    intro w3 hE3
    exact ⟨by simp [hin, edgeB], hE1.trans hE3⟩

def PrIs (w : World) (p q : Prob) (x y : Int) (z u : Sl) (b : Bool) (w' : World) : Prop :=
  Ext w w' ∧ ((b = true ∧ TwoOk p q ∧ p.labels * q.labels ≤ 8 ∧ x = p.labels * q.labels ∧ y = p.degree ∧ RProb w' z u (prodP p q)) ∨ (b = false ∧ ¬ (TwoOk p q ∧ p.labels * q.labels ≤ 8)))

theorem mul_small {p q : Prob} (hT : TwoOk p q) : 1 ≤ p.labels * q.labels ∧ p.labels * q.labels ≤ 64 := by
  have h1 := hT.1.lab
  have h2 := hT.2.1.lab
  have h3 : 1 * 1 ≤ p.labels * q.labels := Int.mul_le_mul h1.1 h2.1 (by omega) (by omega)
  have h4 : p.labels * q.labels ≤ 8 * 8 := Int.mul_le_mul h1.2 h2.2 (by omega) (by omega)
  omega

theorem made_prob {w w' : World} {base : Nat} {px : Addr} {z u : Sl} {p q : Prob} (hs : Step w w' (some px.block)) (hlt : px.block < base) (hT : TwoOk p q) (h8 : p.labels * q.labels ≤ 8) (hz : Own2 w base T.t_int T.t_sl_int z (prodNodes p q)) (hu : Own2 w base T.t_int T.t_sl_int u (prodEdges p q)) : RProb w' z u (prodP p q) := by
  have hm := mul_small hT
  have hg := prod_good hT.1 hT.2.1 h8
  have hk : ∀ k, base ≤ k → k < w.heap.size → w'.heap[k]? = w.heap[k]? := fun k h1 h2 => hs.block k h2 (by intro he; cases he; omega)
  have i64 : ∀ {L : List (List Int)} {size : Int}, ConfOk L size (p.labels * q.labels) → ∀ r ∈ L, ∀ x ∈ r, I64 x := fun hC r hr x hx => by
    have := (confRow hC hr).2 x hx
    unfold I64; omega
  have hd := hT.1.deg
  exact ⟨by show I64 (p.labels * q.labels); unfold I64; omega, by show I64 p.degree; unfold I64; omega, (hz.keep hk).rep (i64 hg.nodes), (hu.keep hk).rep (i64 hg.edges)⟩

theorem ProductProblem_ok {w : World} {c d c' d' : Sl} {p q : Prob} (h : RProb w c d p) (h' : RProb w c' d' q) (hsp : SmallP p) (hsq : SmallP q) :
    Calls Tryz.prog F.i_ProductProblem #[.agg #[.int .i64 p.labels, .int .i64 p.degree, c.v, d.v], .agg #[.int .i64 q.labels, .int .i64 q.degree, c'.v, d'.v]] w (Ret [.agg [.int .i64, .int .i64, .sl, .sl], .at .bool] (PrIs w p q)) := by
  refine C_i_ProductProblem ?_
  unfold V_i_ProductProblem
  refine NEW_intro fun pp w1 hp1 hs1 hE1 hb1 => NEW_intro fun pq w2 hp2 hs2 hE2 hb2 => NEW_intro fun px w3 hp3 hs3 hE3 hb3 => ?_
  have hE := (hE1.trans hE2).trans hE3
  have hz3 := (hE1.trans hE2).size_le
  replace h := h.ext hE
  replace h' := h'.ext hE
  replace hb1 := hb1.ext hE2
  replace hb1 := hb1.ext hE3
  replace hb2 := hb2.ext hE3
  refine LD_iiss hb1 (LD_iiss hb2 ?_)
  refine call (areProblems_ok h h') ?_
  rintro x w4 ⟨hx, hE4⟩
  replace hE := hE.ext hE4
  replace h := h.ext hE4
  replace h' := h'.ext hE4
  replace hb1 := hb1.ext hE4
  replace hb2 := hb2.ext hE4
  replace hb3 := hb3.ext hE4
  have hno : ∀ {w' : World}, Ext w w' → Box w' px T.t_i_Problem [.int .i64 0, .int .i64 0, .slice none 0 0, .slice none 0 0] → ¬ (TwoOk p q ∧ p.labels * q.labels ≤ 8) → ST px 0 [.int .i64 0, .int .i64 0, .slice none 0 0, .slice none 0 0] w' fun w5 => LD [.int .i64, .int .i64, .sl, .sl] px w5 fun (a : Int) (b : Int) (e : Sl) (f : Sl) => PrIs w p q a b e f false w5 := fun {w'} hE' hb' hn => by
    refine ST_all hb' (one4p 0 0 ⟨none, 0, 0⟩ ⟨none, 0, 0⟩) rfl fun w5 hs5 hz5 hb5 => ?_
    exact LD_iiss (z := ⟨none, 0, 0⟩) (u := ⟨none, 0, 0⟩) hb5 ⟨hs5.ext0 hE' fun k hk => by cases hk; omega, .inr ⟨rfl, hn⟩⟩
  refine cond_not (fun hfa => hno hE hb3 fun hA => (by rw [hx.2 hA.1] at hfa; cases hfa)) (fun ht => LD_bi0 hb1 (LD_bi0 hb2 ?_))
  have hT := hx.1 ht
  have hm := mul_small hT
  have hd := hT.1.deg
  rw [wrap_of (by omega) (by omega)]
  refine cond_dec (fun hgt => hno hE hb3 fun hA => by omega) (fun hle => ?_)
  have h8 : p.labels * q.labels ≤ 8 := by omega
  unfold V_i_ProductProblem_k1
  refine LD_bi0 hb1 (LD_bi0 hb2 ?_)
  rw [wrap_of (by omega) (by omega)]
  intro w8 hE8 _
  replace hE := hE.ext hE8
  replace h := h.ext hE8
  replace h' := h'.ext hE8
  replace hb1 := hb1.ext hE8
  replace hb2 := hb2.ext hE8
  replace hb3 := hb3.ext hE8
  refine ⟨fun _ => False, fun h => h, LD_bi1 hb1 ⟨fun h => h, LD_bi1 hb1 ?_⟩⟩
  have en : p.labels * q.labels = (((p.labels * q.labels).toNat : Nat) : Int) := by omega
  have ek : p.degree = ((p.degree.toNat : Nat) : Int) := by omega
  have hgen : ∀ n : Nat, n = (p.labels * q.labels).toNat → n ≤ 8 := fun n hn => by omega
  rw [en]
  rw [ek]
  refine call (allowedBy_ok (p := fun l => decide (sortI (firsts q.labels l) ∈ p.nodes) && decide (sortI (seconds q.labels l) ∈ q.nodes)) (by omega) (by omega) (pow_small (by omega) (by omega)) fun l hM w' s hE' hl => product1_ok h h' hT.1 hT.2.1 hsp hsq hb1 hb2 (by omega) (by omega) hM hE' hl) ?_
  rintro z w9 ⟨hE9, ssz, hz⟩
  refine ⟨.of_ext hE9, ?_⟩
  have e2 : (2 : Int) = ((2 : Nat) : Int) := rfl
  rw [e2]
  refine call (allowedBy_ok (k := 2) (p := fun l => decide (sortI (firsts q.labels l) ∈ p.edges) && decide (sortI (seconds q.labels l) ∈ q.edges)) (by omega) (by omega) (pow_small (by omega) (by omega)) fun l hM w' s hE' hl => product2_ok (h.ext hE9) (h'.ext hE9) hT.1 hT.2.1 hsp hsq (hb1.ext hE9) (hb2.ext hE9) (by omega) hM hE' hl) ?_
  rintro u w10 ⟨hE10, ssu, hu⟩
  have hE810 := hE9.trans hE10
  refine ⟨.of_ext hE810, .of_ext hE810, ?_⟩
  have hb10 := hb3.ext hE810
  have hlt := hb3.lt
  refine ST_all hb10 (one4p _ _ _ _) rfl fun w11 hs11 hz11 hb11 => ?_
  refine LD_iiss hb11 ⟨hs11.ext0 (hE.trans hE810) fun k hk => by cases hk; omega, .inl ⟨rfl, hT, h8, by omega, by omega, ?_⟩⟩
  exact made_prob hs11 hlt hT h8 (hz.ext hE10).own2 (hu.own2.low hE9.size_le)

theorem sProductProblem_ok {w : World} {c d c' d' : Sl} {p q : Prob} (h : RProb w c d p) (h' : RProb w c' d' q) :
    Calls Tryz.prog F.s_ProductProblem #[.agg #[.int .i64 p.labels, .int .i64 p.degree, c.v, d.v], .agg #[.int .i64 q.labels, .int .i64 q.degree, c'.v, d'.v]] w (Ret [.agg [.int .i64, .int .i64, .sl, .sl], .at .bool] (PrIs w p q)) := by
  refine C_s_ProductProblem ?_
  unfold V_s_ProductProblem
  refine NEW_intro fun pp w1 hp1 hs1 hE1 hb1 => NEW_intro fun pq w2 hp2 hs2 hE2 hb2 => NEW_intro fun px w3 hp3 hs3 hE3 hb3 => ?_
  have hE := (hE1.trans hE2).trans hE3
  have hz3 := (hE1.trans hE2).size_le
  replace h := h.ext hE
  replace h' := h'.ext hE
  replace hb1 := hb1.ext hE2
  replace hb1 := hb1.ext hE3
  replace hb2 := hb2.ext hE3
  refine LD_iiss hb1 (LD_iiss hb2 ?_)
  refine call (reTwo_ok h h') ?_
  rintro x w4 ⟨hx, hE4⟩
  replace hE := hE.ext hE4
  replace h := h.ext hE4
  replace h' := h'.ext hE4
  replace hb1 := hb1.ext hE4
  replace hb2 := hb2.ext hE4
  replace hb3 := hb3.ext hE4
  have hno : ∀ {w' : World}, Ext w w' → Box w' px T.t_i_Problem [.int .i64 0, .int .i64 0, .slice none 0 0, .slice none 0 0] → ¬ (TwoOk p q ∧ p.labels * q.labels ≤ 8) → ST px 0 [.int .i64 0, .int .i64 0, .slice none 0 0, .slice none 0 0] w' fun w5 => LD [.int .i64, .int .i64, .sl, .sl] px w5 fun (a : Int) (b : Int) (e : Sl) (f : Sl) => PrIs w p q a b e f false w5 := fun {w'} hE' hb' hn => by
    refine ST_all hb' (one4p 0 0 ⟨none, 0, 0⟩ ⟨none, 0, 0⟩) rfl fun w5 hs5 hz5 hb5 => ?_
    exact LD_iiss (z := ⟨none, 0, 0⟩) (u := ⟨none, 0, 0⟩) hb5 ⟨hs5.ext0 hE' fun k hk => by cases hk; omega, .inr ⟨rfl, hn⟩⟩
  refine cond_not (fun hfa => hno hE hb3 fun hA => (by rw [hx.2 hA.1] at hfa; cases hfa)) (fun ht => LD_bi0 hb1 (LD_bi0 hb2 ?_))
  have hT := hx.1 ht
  have hm := mul_small hT
  have hd := hT.1.deg
  rw [wrap_of (by omega) (by omega)]
  refine cond_dec (fun hgt => hno hE hb3 fun hA => by omega) (fun hle => ?_)
  have h8 : p.labels * q.labels ≤ 8 := by omega
  unfold V_s_ProductProblem_k1
  refine LD_bi0 hb1 (LD_bi0 hb2 ?_)
  rw [wrap_of (by omega) (by omega)]
  intro w8 hE8 _
  replace hE := hE.ext hE8
  replace h := h.ext hE8
  replace h' := h'.ext hE8
  replace hb1 := hb1.ext hE8
  replace hb2 := hb2.ext hE8
  replace hb3 := hb3.ext hE8
  have nf : ∀ {a : Prop}, ¬ False := fun h => h
  refine ⟨fun _ => False, fun h => h, LD_bi1 hb1 ⟨fun h => h, LD_bs2 hb1 ⟨fun h => h, LD_bs2 hb2 ⟨fun h => h, LD_bi1 hb1 ⟨fun h => h, LD_bi0 hb2 ⟨fun h => h, LD_bs3 hb1 ⟨fun h => h, LD_bs3 hb2 ⟨fun h => h, LD_bi0 hb2 ?_⟩⟩⟩⟩⟩⟩⟩⟩
  have en : p.labels * q.labels = (((p.labels * q.labels).toNat : Nat) : Int) := by omega
  have ek : p.degree = ((p.degree.toNat : Nat) : Int) := by omega
  rw [en]
  rw [ek]
  refine call (reProduct_ok h.nodes h'.nodes (by omega) (by omega) (pow_small (by omega) (by omega)) hT.2.1.lab.1) ?_
  rintro z w9 ⟨hE9, bz, hbz, hz⟩
  refine ⟨.of_ext hE9, ?_⟩
  have e2 : (2 : Int) = ((2 : Nat) : Int) := rfl
  rw [e2]
  refine call (reProduct_ok (k := 2) (h.edges.ext hE9) (h'.edges.ext hE9) (by omega) (by omega) (pow_small (by omega) (by omega)) hT.2.1.lab.1) ?_
  rintro u w10 ⟨hE10, bu, hbu, hu⟩
  have hE810 := hE9.trans hE10
  refine ⟨.of_ext hE810, .of_ext hE810, ?_⟩
  have hb10 := hb3.ext hE810
  have hlt := hb3.lt
  refine ST_all hb10 (one4p _ _ _ _) rfl fun w11 hs11 hz11 hb11 => ?_
  refine LD_iiss hb11 ⟨hs11.ext0 (hE.trans hE810) fun k hk => by cases hk; omega, .inl ⟨rfl, hT, h8, by omega, by omega, ?_⟩⟩
  exact made_prob hs11 hlt hT h8 ((hz.ext hE10).low hbz) (hu.low (Nat.le_trans hE9.size_le hbu))

/-! ### What a labeling of the product stands for -/

/-- One more row of two matrices that lie apart. -/
theorem add_row {w : World} {base b1 : Nat} {s s' r y : Sl} {L L' : List (List Int)} {ss ss' : List Sl} {l : List Int} (h : RowsD w base T.t_int T.t_sl_int s L ss) (h' : RowsD w base T.t_int T.t_sl_int s' L' ss') (hd : ∀ b, MB s ss b → ¬ MB s' ss' b) (hbase : base ≤ w.heap.size)
    (hr : OwnL w base T.t_int r l) (hr1 : ∀ b, oB r b → ¬ RB ss b) (hr2 : ∀ b, oB r b → ¬ MB s' ss' b) (hy : OwnL w b1 T.t_sl_int y [r]) (hl : L.length < 1048576) {K : Sl → World → Prop}
    (hk : ∀ t w', RowsD w' base T.t_int T.t_sl_int t (L ++ [l]) (ss ++ [r]) → RowsD w' base T.t_int T.t_sl_int s' L' ss' → (∀ b, MB t (ss ++ [r]) b → ¬ MB s' ss' b) → Step w w' s.v.ownBlock → K t w') :
    RUN Tryz.prog (.at .sl) (bsem .append #[T.t_sl_sl_int, T.t_sl_sl_int] T.t_sl_sl_int #[s.v, y.v]) w K := by
  refine RUN_append_rowDF slt_rows (by decide) h hbase hr (fun j q hq k hk hk' => hr1 k hk' ⟨q, List.mem_of_getElem? hq, hk⟩) hy (by omega) (by unfold maxLen; omega) fun t w' hT hs hn => ?_
  refine hk t w' hT (h'.away (.of_step hs fun k hk => hk) fun b hb hD => hd b (.inl hD) hb) (fun b hb hb' => ?_) hs
  rcases hb with hb | ⟨q, hq, hb⟩
  · rcases hn with h1 | h1
    · exact hd b (.inl (by rw [← h1]; exact hb)) hb'
    · have h2 := h1 b hb
      have h3 := (h'.blk hb').2
      omega
  · rcases List.mem_append.1 hq with h1 | h1
    · exact hd b (.inr ⟨q, h1, hb⟩) hb'
    · rw [List.mem_singleton.1 h1] at hb
      exact hr2 b hb hb'

theorem RB_type {w : World} {base : Nat} {s r : Sl} {L : List (List Int)} {ss : List Sl} {l : List Int} {b2 : Nat} (h : RowsD w base T.t_int T.t_sl_int s L ss) (hr : OwnL w b2 T.t_int r l) {b : Nat} (hb : oB r b) : s.v.ownBlock ≠ some b := fun he => by
  obtain ⟨c1, e1⟩ := hr.type hb
  obtain ⟨c2, e2⟩ := h.own.type he
  rw [e1] at e2
  exact absurd (Obj.cells.inj (Option.some.inj e2)).2.1 (by decide)

structure Two (w w' : World) (k : Int) (L : List (List Int)) (i : Nat) (a b : Sl) (ss ss' : List Sl) : Prop where
  ext : Ext w w'
  fst : RowsD w' w.heap.size T.t_int T.t_sl_int a ((L.take i).map (firsts k)) ss
  snd : RowsD w' w.heap.size T.t_int T.t_sl_int b ((L.take i).map (seconds k)) ss'
  off : ∀ x, MB a ss x → ¬ MB b ss' x

theorem spRows_ok {w : World} {c d s : Sl} {q : Prob} {L : List (List Int)} {px : Addr} {t : TypeId} {Q : Sl → Sl → Bool → World → Prop} (hb : Box w px t [.int .i64 q.labels, .int .i64 q.degree, c.v, d.v]) (hq : 1 ≤ q.labels) (hl : R w s L) (hv : ∀ r ∈ L, ∀ x ∈ r, 0 ≤ x ∧ x ≤ 1000) (hL : L.length ≤ 1048576) (hLL : ∀ r ∈ L, r.length ≤ 1048576)
    (hQ : ∀ a b w', Ext w w' → Out2M w.heap.size w' a (L.map (firsts q.labels)) b (L.map (seconds q.labels)) → Q a b true w') : V_i_SplitProduct_k1 s Q px w := by
  unfold V_i_SplitProduct_k1
  rw [hl.len]
  refine ⟨fun (a b : Sl) (x : Int) w' => ∃ i : Nat, x = i ∧ i ≤ L.length ∧ ∃ ss ss', Two w w' q.labels L i a b ss ss', fun _ _ x _ => L.length - x.toNat, ⟨0, rfl, Nat.zero_le _, [], [], Ext.refl _, by simpa using RowsD.nil _ _ _ _, by simpa using RowsD.nil _ _ _ _, fun b hb => (by
    rcases hb with hb | ⟨r, hr, _⟩
    · cases hb
    · cases hr)⟩, ?_⟩
  rintro a b _ w1 ⟨i, rfl, hi, ss, ss', hE1, hA, hB, hd⟩
  intros
  refine cond_dec (fun hlt => ?_) (fun hge => ?_)
  · have hi' : i < L.length := by omega
    have hvi := hv _ (List.getElem_mem hi')
    obtain ⟨hf1, hf2⟩ := fs_I64 hvi hq
    refine (hl.ext hE1).ixL hi' fun p0 s1 hR1 hc => LD_sl hc (LD_bi0 (hb.ext hE1) ?_)
    refine call (parts_ok hR1.any (hLL _ (List.getElem_mem hi')) hvi hq) ?_
    rintro x y w2 ⟨hE2, hx, hy, hap⟩
    have hz1 := hE1.size_le
    have hz2 := hE2.size_le
    have hlA : ((L.take i).map (firsts q.labels)).length = i := by rw [List.length_map, List.length_take]; omega
    have hlB : ((L.take i).map (seconds q.labels)).length = i := by rw [List.length_map, List.length_take]; omega
    refine RUN_lit1 (α := Sl) slt_rows x rfl (by decide) fun u w3 hE3 hO3 => ?_
    have hE13 := hE2.trans hE3
    have hz3 := hE3.size_le
    have hnewA : ∀ {z : Sl} {m : List Int}, OwnL w2 w1.heap.size T.t_int z m → ∀ b, oB z b → ¬ RB ss b := fun hz b h1 h2 => by
      have := (hz.blk b h1).1
      have := (hA.blk (.inr h2)).2
      omega
    have hnewB : ∀ {z : Sl} {m : List Int}, OwnL w2 w1.heap.size T.t_int z m → ∀ {e : Sl}, MB e ss' = MB b ss' → ∀ b0, oB z b0 → ¬ MB b ss' b0 := fun hz _ _ b0 h1 h2 => by
      have := (hz.blk b0 h1).1
      have := (hB.blk h2).2
      omega
    refine add_row (hA.ext hE13) (hB.ext hE13) hd (by omega) ((hx.ext hE3).low hz1) (hnewA hx) (hnewB hx (e := b) rfl) hO3 (by omega) fun a' w4 hA4 hB4 hd4 hs4 => ?_
    have hC4 : Chg w3 w4 (fun b => w.heap.size ≤ b) := .of_step hs4 fun k hk => (hA.own.blk k hk).1
    have hE4 : Ext w w4 := hC4.ext0 (hE1.trans hE13) fun _ h => h
    have hy4 : OwnL w4 w1.heap.size T.t_int y (seconds q.labels L[i]) := (hy.ext hE3).step (hA.ext hE13).own (by decide) hs4
    have hz4 := hs4.size
    refine RUN_lit1 (α := Sl) slt_rows y rfl (by decide) fun v w5 hE5 hO5 => ?_
    have hz5 := hE5.size_le
    refine add_row (hB4.ext hE5) (hA4.ext hE5) (fun b h1 h2 => hd4 b h2 h1) (by omega) ((hy4.ext hE5).low hz1) (fun k h1 h2 => hnewB hy (e := b) rfl k h1 (.inr h2)) (fun k h1 h2 => ?_) hO5 (by omega) fun b' w6 hB6 hA6 hd6 hs6 => ?_
    · rcases h2 with h2 | ⟨z, hz, h2⟩
      · exact RB_type hA4 hy4 h1 h2
      · rcases List.mem_append.1 hz with h3 | h3
        · exact hnewA hy k h1 ⟨z, h3, h2⟩
        · rw [List.mem_singleton.1 h3] at h2
          exact hap k h2 h1
    · have hC6 : Chg w5 w6 (fun b => w.heap.size ≤ b) := .of_step hs6 fun k hk => (hB4.own.blk k hk).1
      rw [wrap_of (by omega) (by omega)]
      refine ⟨⟨i + 1, by omega, hi', ss ++ [x], ss' ++ [y], hC6.ext0 (hE4.trans hE5) fun _ h => h, ?_, ?_, fun b h1 h2 => hd6 b h2 h1⟩, by simp only []; omega⟩
      · rw [map_take_succ hi']; exact hA6
      · rw [map_take_succ hi']; exact hB6
  · have : i = L.length := by omega
    subst this
    rw [List.take_length] at hA hB
    refine hQ _ _ _ hE1 ⟨⟨ss, ss', hA, hB, hd⟩, fun r hr => ?_, by simpa using hL, fun r hr => ?_, fun r hr => ?_, by simpa using hL, fun r hr => ?_⟩
    · obtain ⟨l, hl', rfl⟩ := List.mem_map.1 hr; exact (fs_I64 (hv l hl') hq).1
    · obtain ⟨l, hl', rfl⟩ := List.mem_map.1 hr; simpa [firsts] using hLL l hl'
    · obtain ⟨l, hl', rfl⟩ := List.mem_map.1 hr; exact (fs_I64 (hv l hl') hq).2
    · obtain ⟨l, hl', rfl⟩ := List.mem_map.1 hr; simpa [seconds] using hLL l hl'


theorem spRowsS_ok {w : World} {c d s : Sl} {q : Prob} {L : List (List Int)} {px : Addr} {t : TypeId} {Q : Sl → Sl → Bool → World → Prop} (hb : Box w px t [.int .i64 q.labels, .int .i64 q.degree, c.v, d.v]) (hq : 1 ≤ q.labels) (hl : R w s L) (hv : ∀ r ∈ L, ∀ x ∈ r, 0 ≤ x ∧ x ≤ 1000) (hL : L.length ≤ 1048576) (hLL : ∀ r ∈ L, r.length ≤ 1048576)
    (hQ : ∀ a b w', Ext w w' → Out2M w.heap.size w' a (L.map (firsts q.labels)) b (L.map (seconds q.labels)) → Q a b true w') : V_s_SplitProduct_k1 s Q px w := by
  unfold V_s_SplitProduct_k1
  rw [hl.len]
  refine ⟨fun (a b : Sl) (x : Int) w' => ∃ i : Nat, x = i ∧ i ≤ L.length ∧ ∃ ss ss', Two w w' q.labels L i a b ss ss', fun _ _ x _ => L.length - x.toNat, ⟨0, rfl, Nat.zero_le _, [], [], Ext.refl _, by simpa using RowsD.nil _ _ _ _, by simpa using RowsD.nil _ _ _ _, fun b hb => (by
    rcases hb with hb | ⟨r, hr, _⟩
    · cases hb
    · cases hr)⟩, ?_⟩
  rintro a b _ w1 ⟨i, rfl, hi, ss, ss', hE1, hA, hB, hd⟩
  intros
  refine cond_dec (fun hlt => ?_) (fun hge => ?_)
  · have hi' : i < L.length := by omega
    have hvi := hv _ (List.getElem_mem hi')
    obtain ⟨hf1, hf2⟩ := fs_I64 hvi hq
    refine (hl.ext hE1).ixL hi' fun p0 s1 hR1 hc => LD_sl hc (LD_bi0 (hb.ext hE1) ?_)
    refine call (reHalves_ok hR1.any (hLL _ (List.getElem_mem hi')) hvi hq) ?_
    rintro x y w2 ⟨hE2, hx, hy, hap⟩
    have hz1 := hE1.size_le
    have hz2 := hE2.size_le
    have hlA : ((L.take i).map (firsts q.labels)).length = i := by rw [List.length_map, List.length_take]; omega
    have hlB : ((L.take i).map (seconds q.labels)).length = i := by rw [List.length_map, List.length_take]; omega
    refine RUN_lit1 (α := Sl) slt_rows x rfl (by decide) fun u w3 hE3 hO3 => ?_
    have hE13 := hE2.trans hE3
    have hz3 := hE3.size_le
    have hnewA : ∀ {z : Sl} {m : List Int}, OwnL w2 w1.heap.size T.t_int z m → ∀ b, oB z b → ¬ RB ss b := fun hz b h1 h2 => by
      have := (hz.blk b h1).1
      have := (hA.blk (.inr h2)).2
      omega
    have hnewB : ∀ {z : Sl} {m : List Int}, OwnL w2 w1.heap.size T.t_int z m → ∀ {e : Sl}, MB e ss' = MB b ss' → ∀ b0, oB z b0 → ¬ MB b ss' b0 := fun hz _ _ b0 h1 h2 => by
      have := (hz.blk b0 h1).1
      have := (hB.blk h2).2
      omega
    refine add_row (hA.ext hE13) (hB.ext hE13) hd (by omega) ((hx.ext hE3).low hz1) (hnewA hx) (hnewB hx (e := b) rfl) hO3 (by omega) fun a' w4 hA4 hB4 hd4 hs4 => ?_
    have hC4 : Chg w3 w4 (fun b => w.heap.size ≤ b) := .of_step hs4 fun k hk => (hA.own.blk k hk).1
    have hE4 : Ext w w4 := hC4.ext0 (hE1.trans hE13) fun _ h => h
    have hy4 : OwnL w4 w1.heap.size T.t_int y (seconds q.labels L[i]) := (hy.ext hE3).step (hA.ext hE13).own (by decide) hs4
    have hz4 := hs4.size
    refine RUN_lit1 (α := Sl) slt_rows y rfl (by decide) fun v w5 hE5 hO5 => ?_
    have hz5 := hE5.size_le
    refine add_row (hB4.ext hE5) (hA4.ext hE5) (fun b h1 h2 => hd4 b h2 h1) (by omega) ((hy4.ext hE5).low hz1) (fun k h1 h2 => hnewB hy (e := b) rfl k h1 (.inr h2)) (fun k h1 h2 => ?_) hO5 (by omega) fun b' w6 hB6 hA6 hd6 hs6 => ?_
    · rcases h2 with h2 | ⟨z, hz, h2⟩
      · exact RB_type hA4 hy4 h1 h2
      · rcases List.mem_append.1 hz with h3 | h3
        · exact hnewA hy k h1 ⟨z, h3, h2⟩
        · rw [List.mem_singleton.1 h3] at h2
          exact hap k h2 h1
    · have hC6 : Chg w5 w6 (fun b => w.heap.size ≤ b) := .of_step hs6 fun k hk => (hB4.own.blk k hk).1
      rw [wrap_of (by omega) (by omega)]
      refine ⟨⟨i + 1, by omega, hi', ss ++ [x], ss' ++ [y], hC6.ext0 (hE4.trans hE5) fun _ h => h, ?_, ?_, fun b h1 h2 => hd6 b h2 h1⟩, by simp only []; omega⟩
      · rw [map_take_succ hi']; exact hA6
      · rw [map_take_succ hi']; exact hB6
  · have : i = L.length := by omega
    subst this
    rw [List.take_length] at hA hB
    refine hQ _ _ _ hE1 ⟨⟨ss, ss', hA, hB, hd⟩, fun r hr => ?_, by simpa using hL, fun r hr => ?_, fun r hr => ?_, by simpa using hL, fun r hr => ?_⟩
    · obtain ⟨l, hl', rfl⟩ := List.mem_map.1 hr; exact (fs_I64 (hv l hl') hq).1
    · obtain ⟨l, hl', rfl⟩ := List.mem_map.1 hr; simpa [firsts] using hLL l hl'
    · obtain ⟨l, hl', rfl⟩ := List.mem_map.1 hr; exact (fs_I64 (hv l hl') hq).2
    · obtain ⟨l, hl', rfl⟩ := List.mem_map.1 hr; simpa [seconds] using hLL l hl'


theorem prodP_labels (p q : Prob) : (prodP p q).labels = p.labels * q.labels := rfl

theorem lab_1000 {p q : Prob} {n : Net} {L : List (List Int)} (h : LabOk (prodP p q) n.ends L) (h8 : p.labels * q.labels ≤ 8) : ∀ r ∈ L, ∀ x ∈ r, 0 ≤ x ∧ x ≤ 1000 := fun r hr x hx => by
  have h1 := h.labs r hr x hx
  rw [prodP_labels] at h1
  omega

theorem prod_small {p q : Prob} (h : TwoOk p q) (h8 : p.labels * q.labels ≤ 8) : SmallP (prodP p q) := by
  have hm := mul_small h
  have hd := h.1.deg
  have h1 := pow_small (n := (p.labels * q.labels).toNat) (k := 4) (by omega) (by omega)
  have hlen : ∀ (k : Nat) (f : List Int → Bool), k ≤ 4 → SmallM ((msets (p.labels * q.labels).toNat k).filter f) := fun k f hk => by
    refine ⟨?_, fun r hr => ?_⟩
    · have a1 := List.length_filter_le f (msets (p.labels * q.labels).toNat k)
      have a2 := msets_len (p.labels * q.labels).toNat k
      have a3 := h1 k hk
      omega
    · have := (mem_msets.1 (List.mem_filter.1 hr).1).len
      omega
  exact ⟨hlen _ _ (by omega), hlen _ _ (by omega)⟩

theorem SplitProduct_ok {w : World} {c d c' d' a b e s : Sl} {p q : Prob} {n : Net} {L : List (List Int)} (h : RProb w c d p) (h' : RProb w c' d' q) (hN : RNet w a b e n) (hl : R w s L) (hsp : SmallP p) (hsq : SmallP q) (hn : Small n) (hsl : SmallM L) :
    Calls Tryz.prog F.i_SplitProduct #[.agg #[.int .i64 p.labels, .int .i64 p.degree, c.v, d.v], .agg #[.int .i64 q.labels, .int .i64 q.degree, c'.v, d'.v], .agg #[a.v, b.v, e.v], s.v] w (Ret [.at .sl, .at .sl, .at .bool] fun (r r' : Sl) (y : Bool) w' => Ext w w' ∧ ∃ m m', Out2M w.heap.size w' r m r' m' ∧ AnsG (SpAsked p q n L) (L.map (firsts q.labels), L.map (seconds q.labels)) ([], []) (m, m') y) := by
  refine C_i_SplitProduct ?_
  unfold V_i_SplitProduct
  refine NEW_intro fun pp w1 hp1 hs1 hE1 hb1 => NEW_intro fun pq w2 hp2 hs2 hE2 hb2 => NEW_intro fun pn w3 hp3 hs3 hE3 hb3 => ?_
  have hE := (hE1.trans hE2).trans hE3
  replace h := h.ext hE
  replace h' := h'.ext hE
  replace hN := hN.ext hE
  replace hl := hl.ext hE
  replace hb1 := hb1.ext hE2
  replace hb1 := hb1.ext hE3
  replace hb2 := hb2.ext hE3
  refine LD_iiss hb1 (LD_iiss hb2 ?_)
  refine call (ProductProblem_ok h h' hsp hsq) ?_
  rintro x y z u r w4 ⟨hE4, hr⟩
  replace hE := hE.ext hE4
  replace h := h.ext hE4
  replace h' := h'.ext hE4
  replace hN := hN.ext hE4
  replace hl := hl.ext hE4
  replace hb1 := hb1.ext hE4
  replace hb2 := hb2.ext hE4
  replace hb3 := hb3.ext hE4
  refine NEW_ST (one4p _ _ _ _) rfl fun px w5 hp5 hE5 hb5 => ?_
  replace hE := hE.ext hE5
  replace h := h.ext hE5
  replace h' := h'.ext hE5
  replace hN := hN.ext hE5
  replace hl := hl.ext hE5
  replace hb1 := hb1.ext hE5
  replace hb2 := hb2.ext hE5
  replace hb3 := hb3.ext hE5
  rcases hr with ⟨rfl, hT, h8, rfl, rfl, hP⟩ | ⟨rfl, hn'⟩
  · refine cond_not (fun hf => by cases hf) (fun _ => LD_box3 hb3 ?_)
    refine call (isNetwork_ok hN hn.2.2.1) ?_
    rintro t w6 ⟨ht, hE6⟩
    replace hE := hE.ext hE6
    replace h := h.ext hE6
    replace h' := h'.ext hE6
    replace hN := hN.ext hE6
    replace hl := hl.ext hE6
    replace hb1 := hb1.ext hE6
    replace hb2 := hb2.ext hE6
    replace hb3 := hb3.ext hE6
    refine cond_not (fun hfa => ⟨hE, [], [], Out2M.nil _ _, .no fun hA => (by rw [ht.2 hA.good] at hfa; cases hfa)⟩) (fun ht2 => LD_iiss (hb5.ext hE6) (LD_box3 hb3 ?_))
    have hg := ht.1 ht2
    refine call (isLabeling_ok (p := prodP p q) ((hP.ext hE5).ext hE6) (prod_good hT.1 hT.2.1 h8) hN hl) ?_
    rintro v w7 ⟨hv, hE7⟩
    replace hE := hE.ext hE7
    replace h := h.ext hE7
    replace h' := h'.ext hE7
    replace hN := hN.ext hE7
    replace hl := hl.ext hE7
    replace hb1 := hb1.ext hE7
    replace hb2 := hb2.ext hE7
    replace hb3 := hb3.ext hE7
    refine cond_not (fun hfa => ⟨hE, [], [], Out2M.nil _ _, .no fun hA => (by rw [hv.2 hA.lab] at hfa; cases hfa)⟩) (fun ht3 => ?_)
    have hLb := hv.1 ht3
    refine spRows_ok hb2 hT.2.1.lab.1 hl (lab_1000 hLb h8) hsl.1 hsl.2 fun a' b' w' hE' hO => ⟨hE.trans hE', _, _, hO.low hE.size_le, .yes ⟨hT.1, hT.2.1, hT.2.2, h8, hg, hLb⟩⟩
  · refine cond_not (fun _ => ⟨hE, [], [], Out2M.nil _ _, .no fun hA => hn' ⟨⟨hA.left, hA.right, hA.deg⟩, hA.few⟩⟩) (fun ht => by cases ht)

theorem sSplitProduct_ok {w : World} {c d c' d' a b e s : Sl} {p q : Prob} {n : Net} {L : List (List Int)} (h : RProb w c d p) (h' : RProb w c' d' q) (hN : RNet w a b e n) (hl : R w s L) :
    Calls Tryz.prog F.s_SplitProduct #[.agg #[.int .i64 p.labels, .int .i64 p.degree, c.v, d.v], .agg #[.int .i64 q.labels, .int .i64 q.degree, c'.v, d'.v], .agg #[a.v, b.v, e.v], s.v] w (Ret [.at .sl, .at .sl, .at .bool] fun (r r' : Sl) (y : Bool) w' => Ext w w' ∧ ∃ m, R w' r m ∧ ∃ m', R w' r' m' ∧ AnsG (SpAsked p q n L) (L.map (firsts q.labels), L.map (seconds q.labels)) ([], []) (m, m') y) := by
  refine C_s_SplitProduct ?_
  unfold V_s_SplitProduct
  refine NEW_intro fun pp w1 hp1 hs1 hE1 hb1 => NEW_intro fun pq w2 hp2 hs2 hE2 hb2 => NEW_intro fun pn w3 hp3 hs3 hE3 hb3 => ?_
  have hE := (hE1.trans hE2).trans hE3
  replace h := h.ext hE
  replace h' := h'.ext hE
  replace hN := hN.ext hE
  replace hl := hl.ext hE
  replace hb1 := hb1.ext hE2
  replace hb1 := hb1.ext hE3
  replace hb2 := hb2.ext hE3
  have hni : ∀ {w' : World}, R w' (⟨none, 0, 0⟩ : Sl) ([] : List (List Int)) := fun {w'} => (OutM.nil 0 w').rep
  refine LD_iiss hb1 (LD_iiss hb2 ?_)
  refine call (sProductProblem_ok h h') ?_
  rintro x y z u r w4 ⟨hE4, hr⟩
  replace hE := hE.ext hE4
  replace h := h.ext hE4
  replace h' := h'.ext hE4
  replace hN := hN.ext hE4
  replace hl := hl.ext hE4
  replace hb1 := hb1.ext hE4
  replace hb2 := hb2.ext hE4
  replace hb3 := hb3.ext hE4
  refine NEW_ST (one4p _ _ _ _) rfl fun px w5 hp5 hE5 hb5 => ?_
  replace hE := hE.ext hE5
  replace h := h.ext hE5
  replace h' := h'.ext hE5
  replace hN := hN.ext hE5
  replace hl := hl.ext hE5
  replace hb1 := hb1.ext hE5
  replace hb2 := hb2.ext hE5
  replace hb3 := hb3.ext hE5
  rcases hr with ⟨rfl, hT, h8, rfl, rfl, hP⟩ | ⟨rfl, hn'⟩
  · refine cond_not (fun hf => by cases hf) (fun _ => LD_iiss hb5 (LD_box3 hb3 ?_))
    refine call (prAsked_ok (p := prodP p q) (hP.ext hE5) hN hl) ?_
    rintro v w7 ⟨hv, hE7⟩
    replace hE := hE.ext hE7
    replace h := h.ext hE7
    replace h' := h'.ext hE7
    replace hN := hN.ext hE7
    replace hl := hl.ext hE7
    replace hb1 := hb1.ext hE7
    replace hb2 := hb2.ext hE7
    replace hb3 := hb3.ext hE7
    refine cond_not (fun hfa => ⟨hE, [], hni, [], hni, .no fun hA => (by rw [hv.2 ⟨prod_good hT.1 hT.2.1 h8, hA.good, hA.lab⟩] at hfa; cases hfa)⟩) (fun ht3 => ?_)
    have hS := hv.1 ht3
    have hsl : SmallM L := ⟨by have := hS.lab.rows.1; have := hS.good.size.2; omega, fun r hr => by
      obtain ⟨v, hv, rfl⟩ := List.mem_iff_getElem.1 hr
      have hve : v < n.ends.length := by have := hS.lab.rows.1; omega
      have h1 := hS.lab.rows.2 v hv
      rw [rowD hv, rowD hve] at h1
      have := hS.good.deg hve
      omega⟩
    refine spRowsS_ok hb2 hT.2.1.lab.1 hl (lab_1000 hS.lab h8) hsl.1 hsl.2 fun a' b' w' hE' hO => ⟨hE.trans hE', _, hO.rep, _, hO.rep', .yes ⟨hT.1, hT.2.1, hT.2.2, h8, hS.good, hS.lab⟩⟩
  · refine cond_not (fun _ => ⟨hE, [], hni, [], hni, .no fun hA => hn' ⟨⟨hA.left, hA.right, hA.deg⟩, hA.few⟩⟩) (fun ht => by cases ht)

end Go.Proofs.YtlmiookpmneicaaGreat
end

section
/- The walk of the law FnExactSplitProduct. -/
namespace Go.Proofs.YtlmiookpmneicaaGreat
open Go.GX Go.RowKit
set_option maxRecDepth 100000
set_option maxHeartbeats 800000

theorem fnExactSplitProduct_ok {w : World} {c0 e0 : Sl} {q0 : Prob} {c1 e1 : Sl} {q1 : Prob} {a2 b2 c2 : Sl} {n2 : Net} {s3 : Sl} {l3 : List (List Int)} (h0 : RProb w c0 e0 q0) (h1 : RProb w c1 e1 q1) (h2 : RNet w a2 b2 c2 n2) (h3 : R w s3 l3) :
    Calls Tryz.prog F.l_FnExactSplitProduct #[.agg #[.int .i64 q0.labels, .int .i64 q0.degree, c0.v, e0.v], .agg #[.int .i64 q1.labels, .int .i64 q1.degree, c1.v, e1.v], .agg #[a2.v, b2.v, c2.v], s3.v] w (Ret [.at .bool] fun (x : Bool) w' => x = true ∧ Ext w w') := by
  refine C_l_FnExactSplitProduct ?_
  unfold V_l_FnExactSplitProduct
  refine NEW_intro fun p0 u0 hp0 hs0 hA0 hb0 => ?_
  have hE := hA0
  replace h0 := h0.ext hA0
  replace h1 := h1.ext hA0
  replace h2 := h2.ext hA0
  replace h3 := h3.ext hA0
  refine NEW_intro fun p1 u1 hp1 hs1 hA1 hb1 => ?_
  replace hE := hE.ext hA1
  replace h0 := h0.ext hA1
  replace h1 := h1.ext hA1
  replace h2 := h2.ext hA1
  replace h3 := h3.ext hA1
  replace hb0 := hb0.ext hA1
  refine NEW_intro fun p2 u2 hp2 hs2 hA2 hb2 => ?_
  replace hE := hE.ext hA2
  replace h0 := h0.ext hA2
  replace h1 := h1.ext hA2
  replace h2 := h2.ext hA2
  replace h3 := h3.ext hA2
  replace hb0 := hb0.ext hA2
  replace hb1 := hb1.ext hA2
  refine LD_iiss hb0 ?_
  refine call (szProblem_ok h0 1048576 (by omega) (by omega)) ?_
  rintro z0 x0 ⟨hz0, hB0⟩
  replace hE := hE.ext hB0
  replace h0 := h0.ext hB0
  replace h1 := h1.ext hB0
  replace h2 := h2.ext hB0
  replace h3 := h3.ext hB0
  replace hb0 := hb0.ext hB0
  replace hb1 := hb1.ext hB0
  replace hb2 := hb2.ext hB0
  refine cond_dec (fun _ => ⟨rfl, hE⟩) (fun hzl0 => ?_)
  have hS0 := (hz0 (by omega)).1
  have hzz0 := (hz0 (by omega)).2
  refine LD_iiss hb1 ?_
  refine call (szProblem_ok h1 z0 (by omega) (by omega)) ?_
  rintro z1 x1 ⟨hz1, hB1⟩
  replace hE := hE.ext hB1
  replace h0 := h0.ext hB1
  replace h1 := h1.ext hB1
  replace h2 := h2.ext hB1
  replace h3 := h3.ext hB1
  replace hb0 := hb0.ext hB1
  replace hb1 := hb1.ext hB1
  replace hb2 := hb2.ext hB1
  refine cond_dec (fun _ => ⟨rfl, hE⟩) (fun hzl1 => ?_)
  have hS1 := (hz1 (by omega)).1
  have hzz1 := (hz1 (by omega)).2
  refine LD_box3 hb2 ?_
  refine call (szNetwork_at h2 z1 (by omega) (by omega)) ?_
  rintro z2 x2 ⟨hz2, hB2⟩
  replace hE := hE.ext hB2
  replace h0 := h0.ext hB2
  replace h1 := h1.ext hB2
  replace h2 := h2.ext hB2
  replace h3 := h3.ext hB2
  replace hb0 := hb0.ext hB2
  replace hb1 := hb1.ext hB2
  replace hb2 := hb2.ext hB2
  refine cond_dec (fun _ => ⟨rfl, hE⟩) (fun hzl2 => ?_)
  have hS2 := (hz2 (by omega)).1
  have hzz2 := (hz2 (by omega)).2
  refine call (szIntSS_ok h3 z2 (by omega) (by omega)) ?_
  rintro z3 _ ⟨hz3, rfl⟩
  refine cond_dec (fun _ => ⟨rfl, hE⟩) (fun hzl3 => ?_)
  obtain ⟨hzz3, hza3, hzb3⟩ := hz3 (by omega)
  have hS3 : SmallM l3 := ⟨by omega, fun r hr => by have := hzb3 r hr; omega⟩
  intro wS hGS _
  replace hE := hE.ext hGS
  replace h0 := h0.ext hGS
  replace h1 := h1.ext hGS
  replace h2 := h2.ext hGS
  replace h3 := h3.ext hGS
  replace hb0 := hb0.ext hGS
  replace hb1 := hb1.ext hGS
  replace hb2 := hb2.ext hGS
  have hReg := Ext.refl wS
  refine LD_iiss hb0 (LD_iiss hb1 (LD_box3 hb2 ?_))
  refine call (toProblem_ok h0 hS0) ?_
  rintro _ _ zs0 us0 ws0 ⟨rfl, rfl, hEs0, hNs0⟩
  replace hE := hE.ext hEs0
  replace h0 := h0.ext hEs0
  replace h1 := h1.ext hEs0
  replace h2 := h2.ext hEs0
  replace h3 := h3.ext hEs0
  replace hb0 := hb0.ext hEs0
  replace hb1 := hb1.ext hEs0
  replace hb2 := hb2.ext hEs0
  replace hReg := hReg.ext hEs0
  refine ⟨hReg, ?_⟩
  refine call (toProblem_ok h1 hS1) ?_
  rintro _ _ zs1 us1 ws1 ⟨rfl, rfl, hEs1, hNs1⟩
  replace hE := hE.ext hEs1
  replace h0 := h0.ext hEs1
  replace h1 := h1.ext hEs1
  replace h2 := h2.ext hEs1
  replace h3 := h3.ext hEs1
  replace hb0 := hb0.ext hEs1
  replace hb1 := hb1.ext hEs1
  replace hb2 := hb2.ext hEs1
  replace hReg := hReg.ext hEs1
  replace hNs0 := hNs0.ext hEs1
  refine ⟨hReg, ?_⟩
  refine call (toNetwork_ok h2 hS2) ?_
  rintro xs2 ys2 zs2 ws2 ⟨hEs2, hNs2⟩
  replace hE := hE.ext hEs2
  replace h0 := h0.ext hEs2
  replace h1 := h1.ext hEs2
  replace h2 := h2.ext hEs2
  replace h3 := h3.ext hEs2
  replace hb0 := hb0.ext hEs2
  replace hb1 := hb1.ext hEs2
  replace hb2 := hb2.ext hEs2
  replace hReg := hReg.ext hEs2
  replace hNs0 := hNs0.ext hEs2
  replace hNs1 := hNs1.ext hEs2
  refine ⟨hReg, ?_⟩
  refine call (toIntSS_own h3 hS3.1 hS3.2) ?_
  rintro ss3 ws3 ⟨hEs3, hOs3⟩
  replace hE := hE.ext hEs3
  replace h0 := h0.ext hEs3
  replace h1 := h1.ext hEs3
  replace h2 := h2.ext hEs3
  replace h3 := h3.ext hEs3
  replace hb0 := hb0.ext hEs3
  replace hb1 := hb1.ext hEs3
  replace hb2 := hb2.ext hEs3
  replace hReg := hReg.ext hEs3
  replace hNs0 := hNs0.ext hEs3
  replace hNs1 := hNs1.ext hEs3
  replace hNs2 := hNs2.ext hEs3
  have hRs3 := hOs3.rep (flat_okII h3)
  refine ⟨hReg, ?_⟩
  refine call (sSplitProduct_ok hNs0 hNs1 hNs2 hRs3) ?_
  rintro r10 r11 r12 wA ⟨hCA, r1L0, hL10, r1L1, hL11, hA1⟩
  replace hE := hE.ext hCA
  replace h0 := h0.ext hCA
  replace h1 := h1.ext hCA
  replace h2 := h2.ext hCA
  replace h3 := h3.ext hCA
  replace hb0 := hb0.ext hCA
  replace hb1 := hb1.ext hCA
  replace hb2 := hb2.ext hCA
  replace hReg := hReg.ext hCA
  replace hNs0 := hNs0.ext hCA
  replace hNs1 := hNs1.ext hCA
  replace hNs2 := hNs2.ext hCA
  replace hRs3 := hRs3.ext hCA
  refine ⟨hReg, ?_⟩
  refine ⟨hReg, ?_⟩
  refine ⟨hReg, ?_⟩
  refine ⟨hReg, ?_⟩
  have hX := Ext.refl wA
  refine LD_iiss (hb0.ext hX) ?_
  have hlo0 := hX.size_le
  refine call (toProblem_own (h0.ext hX) hS0) ?_
  rintro _ _ zi0 ui0 wi0 ⟨rfl, rfl, hEi0, mid0, top0, hOP0⟩
  have hls0 := hEi0.size_le
  replace hX := hX.ext hEi0
  have hM0 := hOP0.mnodes
  have hMe0 := hOP0.medges
  have hlm0 := hOP0.lom
  have hmt0 := hOP0.mhi
  have htw0 := hOP0.top
  have hNi0 := hOP0.prob h0
  have hH0 := Ext.refl wi0
  refine NEW_ST (one4p _ _ _ _) rfl fun yi0 vi0 hqi0 hFi0 hc0 => ?_
  replace hX := hX.ext hFi0
  replace hM0 := hM0.ext hFi0
  replace hMe0 := hMe0.ext hFi0
  replace hNi0 := hNi0.ext hFi0
  replace hH0 := hH0.ext hFi0
  refine LD_iiss (hb1.ext hX) ?_
  have hlp1_0 := hH0.size_le
  have hlo1 := hX.size_le
  refine call (toProblem_own (h1.ext hX) hS1) ?_
  rintro _ _ zi1 ui1 wi1 ⟨rfl, rfl, hEi1, mid1, top1, hOP1⟩
  have hls1 := hEi1.size_le
  replace hX := hX.ext hEi1
  replace hM0 := hM0.ext hEi1
  replace hMe0 := hMe0.ext hEi1
  replace hNi0 := hNi0.ext hEi1
  replace hH0 := hH0.ext hEi1
  replace hc0 := hc0.ext hEi1
  have hM1 := hOP1.mnodes
  have hMe1 := hOP1.medges
  have hlm1 := hOP1.lom
  have hmt1 := hOP1.mhi
  have htw1 := hOP1.top
  have hNi1 := hOP1.prob h1
  have hH1 := Ext.refl wi1
  refine NEW_ST (one4p _ _ _ _) rfl fun yi1 vi1 hqi1 hFi1 hc1 => ?_
  replace hX := hX.ext hFi1
  replace hM0 := hM0.ext hFi1
  replace hMe0 := hMe0.ext hFi1
  replace hNi0 := hNi0.ext hFi1
  replace hH0 := hH0.ext hFi1
  replace hc0 := hc0.ext hFi1
  replace hM1 := hM1.ext hFi1
  replace hMe1 := hMe1.ext hFi1
  replace hNi1 := hNi1.ext hFi1
  replace hH1 := hH1.ext hFi1
  refine LD_box3 (hb2.ext hX) ?_
  have hlp2_0 := hH0.size_le
  have hlp2_1 := hH1.size_le
  have hlo2 := hX.size_le
  refine call (toNetwork_own (h2.ext hX) hS2) ?_
  rintro xi2 yi2 zi2 wi2 ⟨hEi2, hON2⟩
  have hls2 := hEi2.size_le
  replace hX := hX.ext hEi2
  replace hM0 := hM0.ext hEi2
  replace hMe0 := hMe0.ext hEi2
  replace hNi0 := hNi0.ext hEi2
  replace hH0 := hH0.ext hEi2
  replace hc0 := hc0.ext hEi2
  replace hM1 := hM1.ext hEi2
  replace hMe1 := hMe1.ext hEi2
  replace hNi1 := hNi1.ext hEi2
  replace hH1 := hH1.ext hEi2
  replace hc1 := hc1.ext hEi2
  have hM2 := hON2.mnet hS2
  have hNi2 := hON2.net h2
  have hH2 := Ext.refl wi2
  refine NEW_ST (one3 _ _ _) rfl fun qi2 vi2 hqi2 hFi2 hc2 => ?_
  replace hX := hX.ext hFi2
  replace hM0 := hM0.ext hFi2
  replace hMe0 := hMe0.ext hFi2
  replace hNi0 := hNi0.ext hFi2
  replace hH0 := hH0.ext hFi2
  replace hc0 := hc0.ext hFi2
  replace hM1 := hM1.ext hFi2
  replace hMe1 := hMe1.ext hFi2
  replace hNi1 := hNi1.ext hFi2
  replace hH1 := hH1.ext hFi2
  replace hc1 := hc1.ext hFi2
  replace hM2 := hM2.ext hFi2
  replace hNi2 := hNi2.ext hFi2
  replace hH2 := hH2.ext hFi2
  have hlp3_0 := hH0.size_le
  have hlp3_1 := hH1.size_le
  have hlp3_2 := hH2.size_le
  have hlo3 := hX.size_le
  refine call (toIntSS_own (h3.ext hX) hS3.1 hS3.2) ?_
  rintro si3 wi3 ⟨hEi3, hOi3⟩
  have hls3 := hEi3.size_le
  replace hX := hX.ext hEi3
  replace hM0 := hM0.ext hEi3
  replace hMe0 := hMe0.ext hEi3
  replace hNi0 := hNi0.ext hEi3
  replace hH0 := hH0.ext hEi3
  replace hc0 := hc0.ext hEi3
  replace hM1 := hM1.ext hEi3
  replace hMe1 := hMe1.ext hEi3
  replace hNi1 := hNi1.ext hEi3
  replace hH1 := hH1.ext hEi3
  replace hc1 := hc1.ext hEi3
  replace hM2 := hM2.ext hEi3
  replace hNi2 := hNi2.ext hEi3
  replace hH2 := hH2.ext hEi3
  replace hc2 := hc2.ext hEi3
  have hRi3 := hOi3.rep (flat_okII h3)
  have hM3 := mintss_of hOi3 hS3.1 hS3.2
  have hH3 := Ext.refl wi3
  refine LD_iiss hc0 ?_
  refine LD_iiss hc1 ?_
  refine LD_box3 hc2 ?_
  have hhi0 := hH0.size_le
  have hhi1 := hH1.size_le
  have hhi2 := hH2.size_le
  have hhi3 := hH3.size_le
  have hXD := hX.size_le
  refine call (SplitProduct_ok hNi0 hNi1 hNi2 hRi3 hS0 hS1 hS2 hS3) ?_
  rintro r20 r21 r22 wE ⟨hCE, r2L0, r2L1, hG2P, hA2⟩
  replace hX := hX.ext hCE
  replace hM0 := hM0.ext hCE
  replace hMe0 := hMe0.ext hCE
  replace hNi0 := hNi0.ext hCE
  replace hH0 := hH0.ext hCE
  replace hc0 := hc0.ext hCE
  replace hM1 := hM1.ext hCE
  replace hMe1 := hMe1.ext hCE
  replace hNi1 := hNi1.ext hCE
  replace hH1 := hH1.ext hCE
  replace hc1 := hc1.ext hCE
  replace hM2 := hM2.ext hCE
  replace hNi2 := hNi2.ext hCE
  replace hH2 := hH2.ext hCE
  replace hc2 := hc2.ext hCE
  replace hRi3 := hRi3.ext hCE
  replace hM3 := hM3.ext hCE
  replace hH3 := hH3.ext hCE
  obtain ⟨hpr, rfl⟩ := hA1.eq hA2
  simp only [Prod.mk.injEq] at hpr
  obtain ⟨rfl, rfl⟩ := hpr
  refine call (eqIntSS_ok hG2P.rep (hL10.ext hX)) ?_
  rintro _ we1 ⟨rfl, hK⟩
  replace hX := hX.ext hK
  replace hM0 := hM0.ext hK
  replace hMe0 := hMe0.ext hK
  replace hNi0 := hNi0.ext hK
  replace hH0 := hH0.ext hK
  replace hc0 := hc0.ext hK
  replace hM1 := hM1.ext hK
  replace hMe1 := hMe1.ext hK
  replace hNi1 := hNi1.ext hK
  replace hH1 := hH1.ext hK
  replace hc1 := hc1.ext hK
  replace hM2 := hM2.ext hK
  replace hNi2 := hNi2.ext hK
  replace hH2 := hH2.ext hK
  replace hc2 := hc2.ext hK
  replace hRi3 := hRi3.ext hK
  replace hM3 := hM3.ext hK
  replace hH3 := hH3.ext hK
  replace hG2P := hG2P.ext hK
  refine cond_f (by simp) ?_
  refine call (eqIntSS_ok hG2P.rep' (hL11.ext hX)) ?_
  rintro _ we2 ⟨rfl, hK⟩
  replace hX := hX.ext hK
  replace hM0 := hM0.ext hK
  replace hMe0 := hMe0.ext hK
  replace hNi0 := hNi0.ext hK
  replace hH0 := hH0.ext hK
  replace hc0 := hc0.ext hK
  replace hM1 := hM1.ext hK
  replace hMe1 := hMe1.ext hK
  replace hNi1 := hNi1.ext hK
  replace hH1 := hH1.ext hK
  replace hc1 := hc1.ext hK
  replace hM2 := hM2.ext hK
  replace hNi2 := hNi2.ext hK
  replace hH2 := hH2.ext hK
  replace hc2 := hc2.ext hK
  replace hRi3 := hRi3.ext hK
  replace hM3 := hM3.ext hK
  replace hH3 := hH3.ext hK
  replace hG2P := hG2P.ext hK
  refine cond_f (by simp) ?_
  refine cond_f (by simp) ?_
  unfold V_l_FnExactSplitProduct_k5
  intro m0 hG0 _
  replace hX := hX.ext hG0
  replace hM0 := hM0.ext hG0
  replace hMe0 := hMe0.ext hG0
  replace hNi0 := hNi0.ext hG0
  replace hH0 := hH0.ext hG0
  replace hc0 := hc0.ext hG0
  replace hM1 := hM1.ext hG0
  replace hMe1 := hMe1.ext hG0
  replace hNi1 := hNi1.ext hG0
  replace hH1 := hH1.ext hG0
  replace hc1 := hc1.ext hG0
  replace hM2 := hM2.ext hG0
  replace hNi2 := hNi2.ext hG0
  replace hH2 := hH2.ext hG0
  replace hc2 := hc2.ext hG0
  replace hRi3 := hRi3.ext hG0
  replace hM3 := hM3.ext hG0
  replace hH3 := hH3.ext hG0
  replace hG2P := hG2P.ext hG0
  refine LD_iiss hc0 (LD_iiss (hb0.ext hX) ?_)
  refine ⟨Ext.refl _, call (toProblem_ok (h0.ext hX) hS0) ?_⟩
  rintro _ _ ze0 ue0 we0' ⟨rfl, rfl, hHe0, hNe0⟩
  replace hX := hX.ext hHe0
  replace hM0 := hM0.ext hHe0
  replace hMe0 := hMe0.ext hHe0
  replace hNi0 := hNi0.ext hHe0
  replace hH0 := hH0.ext hHe0
  replace hc0 := hc0.ext hHe0
  replace hM1 := hM1.ext hHe0
  replace hMe1 := hMe1.ext hHe0
  replace hNi1 := hNi1.ext hHe0
  replace hH1 := hH1.ext hHe0
  replace hc1 := hc1.ext hHe0
  replace hM2 := hM2.ext hHe0
  replace hNi2 := hNi2.ext hHe0
  replace hH2 := hH2.ext hHe0
  replace hc2 := hc2.ext hHe0
  replace hRi3 := hRi3.ext hHe0
  replace hM3 := hM3.ext hHe0
  replace hH3 := hH3.ext hHe0
  replace hG2P := hG2P.ext hHe0
  refine ⟨hHe0, call (eqProblem_ok hNi0 hNe0) ?_⟩
  rintro _ wf0 ⟨rfl, hK0⟩
  replace hX := hX.ext hK0
  replace hM0 := hM0.ext hK0
  replace hMe0 := hMe0.ext hK0
  replace hNi0 := hNi0.ext hK0
  replace hH0 := hH0.ext hK0
  replace hc0 := hc0.ext hK0
  replace hM1 := hM1.ext hK0
  replace hMe1 := hMe1.ext hK0
  replace hNi1 := hNi1.ext hK0
  replace hH1 := hH1.ext hK0
  replace hc1 := hc1.ext hK0
  replace hM2 := hM2.ext hK0
  replace hNi2 := hNi2.ext hK0
  replace hH2 := hH2.ext hK0
  replace hc2 := hc2.ext hK0
  replace hRi3 := hRi3.ext hK0
  replace hM3 := hM3.ext hK0
  replace hH3 := hH3.ext hK0
  replace hG2P := hG2P.ext hK0
  refine ⟨hHe0.trans hK0, cond_f (by simp) ?_⟩
  intro m1 hG1 _
  replace hX := hX.ext hG1
  replace hM0 := hM0.ext hG1
  replace hMe0 := hMe0.ext hG1
  replace hNi0 := hNi0.ext hG1
  replace hH0 := hH0.ext hG1
  replace hc0 := hc0.ext hG1
  replace hM1 := hM1.ext hG1
  replace hMe1 := hMe1.ext hG1
  replace hNi1 := hNi1.ext hG1
  replace hH1 := hH1.ext hG1
  replace hc1 := hc1.ext hG1
  replace hM2 := hM2.ext hG1
  replace hNi2 := hNi2.ext hG1
  replace hH2 := hH2.ext hG1
  replace hc2 := hc2.ext hG1
  replace hRi3 := hRi3.ext hG1
  replace hM3 := hM3.ext hG1
  replace hH3 := hH3.ext hG1
  replace hG2P := hG2P.ext hG1
  refine LD_iiss hc1 (LD_iiss (hb1.ext hX) ?_)
  refine ⟨Ext.refl _, call (toProblem_ok (h1.ext hX) hS1) ?_⟩
  rintro _ _ ze1 ue1 we1' ⟨rfl, rfl, hHe1, hNe1⟩
  replace hX := hX.ext hHe1
  replace hM0 := hM0.ext hHe1
  replace hMe0 := hMe0.ext hHe1
  replace hNi0 := hNi0.ext hHe1
  replace hH0 := hH0.ext hHe1
  replace hc0 := hc0.ext hHe1
  replace hM1 := hM1.ext hHe1
  replace hMe1 := hMe1.ext hHe1
  replace hNi1 := hNi1.ext hHe1
  replace hH1 := hH1.ext hHe1
  replace hc1 := hc1.ext hHe1
  replace hM2 := hM2.ext hHe1
  replace hNi2 := hNi2.ext hHe1
  replace hH2 := hH2.ext hHe1
  replace hc2 := hc2.ext hHe1
  replace hRi3 := hRi3.ext hHe1
  replace hM3 := hM3.ext hHe1
  replace hH3 := hH3.ext hHe1
  replace hG2P := hG2P.ext hHe1
  refine ⟨hHe1, call (eqProblem_ok hNi1 hNe1) ?_⟩
  rintro _ wf1 ⟨rfl, hK1⟩
  replace hX := hX.ext hK1
  replace hM0 := hM0.ext hK1
  replace hMe0 := hMe0.ext hK1
  replace hNi0 := hNi0.ext hK1
  replace hH0 := hH0.ext hK1
  replace hc0 := hc0.ext hK1
  replace hM1 := hM1.ext hK1
  replace hMe1 := hMe1.ext hK1
  replace hNi1 := hNi1.ext hK1
  replace hH1 := hH1.ext hK1
  replace hc1 := hc1.ext hK1
  replace hM2 := hM2.ext hK1
  replace hNi2 := hNi2.ext hK1
  replace hH2 := hH2.ext hK1
  replace hc2 := hc2.ext hK1
  replace hRi3 := hRi3.ext hK1
  replace hM3 := hM3.ext hK1
  replace hH3 := hH3.ext hK1
  replace hG2P := hG2P.ext hK1
  refine ⟨hHe1.trans hK1, cond_f (by simp) ?_⟩
  intro m2 hG2 _
  replace hX := hX.ext hG2
  replace hM0 := hM0.ext hG2
  replace hMe0 := hMe0.ext hG2
  replace hNi0 := hNi0.ext hG2
  replace hH0 := hH0.ext hG2
  replace hc0 := hc0.ext hG2
  replace hM1 := hM1.ext hG2
  replace hMe1 := hMe1.ext hG2
  replace hNi1 := hNi1.ext hG2
  replace hH1 := hH1.ext hG2
  replace hc1 := hc1.ext hG2
  replace hM2 := hM2.ext hG2
  replace hNi2 := hNi2.ext hG2
  replace hH2 := hH2.ext hG2
  replace hc2 := hc2.ext hG2
  replace hRi3 := hRi3.ext hG2
  replace hM3 := hM3.ext hG2
  replace hH3 := hH3.ext hG2
  replace hG2P := hG2P.ext hG2
  refine LD_box3 hc2 (LD_box3 (hb2.ext hX) ?_)
  refine ⟨Ext.refl _, call (toNetwork_ok (h2.ext hX) hS2) ?_⟩
  rintro xe2 ye2 ze2 we2' ⟨hHe2, hNe2⟩
  replace hX := hX.ext hHe2
  replace hM0 := hM0.ext hHe2
  replace hMe0 := hMe0.ext hHe2
  replace hNi0 := hNi0.ext hHe2
  replace hH0 := hH0.ext hHe2
  replace hc0 := hc0.ext hHe2
  replace hM1 := hM1.ext hHe2
  replace hMe1 := hMe1.ext hHe2
  replace hNi1 := hNi1.ext hHe2
  replace hH1 := hH1.ext hHe2
  replace hc1 := hc1.ext hHe2
  replace hM2 := hM2.ext hHe2
  replace hNi2 := hNi2.ext hHe2
  replace hH2 := hH2.ext hHe2
  replace hc2 := hc2.ext hHe2
  replace hRi3 := hRi3.ext hHe2
  replace hM3 := hM3.ext hHe2
  replace hH3 := hH3.ext hHe2
  replace hG2P := hG2P.ext hHe2
  refine ⟨hHe2, call (eqNetwork_ok hNi2 hNe2) ?_⟩
  rintro _ wf2 ⟨rfl, hK2⟩
  replace hX := hX.ext hK2
  replace hM0 := hM0.ext hK2
  replace hMe0 := hMe0.ext hK2
  replace hNi0 := hNi0.ext hK2
  replace hH0 := hH0.ext hK2
  replace hc0 := hc0.ext hK2
  replace hM1 := hM1.ext hK2
  replace hMe1 := hMe1.ext hK2
  replace hNi1 := hNi1.ext hK2
  replace hH1 := hH1.ext hK2
  replace hc1 := hc1.ext hK2
  replace hM2 := hM2.ext hK2
  replace hNi2 := hNi2.ext hK2
  replace hH2 := hH2.ext hK2
  replace hc2 := hc2.ext hK2
  replace hRi3 := hRi3.ext hK2
  replace hM3 := hM3.ext hK2
  replace hH3 := hH3.ext hK2
  replace hG2P := hG2P.ext hK2
  refine ⟨hHe2.trans hK2, cond_f (by simp) ?_⟩
  refine call (toIntSS_own (h3.ext hX) hS3.1 hS3.2) ?_
  rintro se3 we3' ⟨hHe3, hOe3⟩
  replace hX := hX.ext hHe3
  replace hM0 := hM0.ext hHe3
  replace hMe0 := hMe0.ext hHe3
  replace hNi0 := hNi0.ext hHe3
  replace hH0 := hH0.ext hHe3
  replace hc0 := hc0.ext hHe3
  replace hM1 := hM1.ext hHe3
  replace hMe1 := hMe1.ext hHe3
  replace hNi1 := hNi1.ext hHe3
  replace hH1 := hH1.ext hHe3
  replace hc1 := hc1.ext hHe3
  replace hM2 := hM2.ext hHe3
  replace hNi2 := hNi2.ext hHe3
  replace hH2 := hH2.ext hHe3
  replace hc2 := hc2.ext hHe3
  replace hRi3 := hRi3.ext hHe3
  replace hM3 := hM3.ext hHe3
  replace hH3 := hH3.ext hHe3
  replace hG2P := hG2P.ext hHe3
  refine call (eqIntSS_ok hRi3 (hOe3.rep (flat_okII h3))) ?_
  rintro _ wf3 ⟨rfl, hK3⟩
  replace hX := hX.ext hK3
  replace hM0 := hM0.ext hK3
  replace hMe0 := hMe0.ext hK3
  replace hNi0 := hNi0.ext hK3
  replace hH0 := hH0.ext hK3
  replace hc0 := hc0.ext hK3
  replace hM1 := hM1.ext hK3
  replace hMe1 := hMe1.ext hK3
  replace hNi1 := hNi1.ext hK3
  replace hH1 := hH1.ext hK3
  replace hc1 := hc1.ext hK3
  replace hM2 := hM2.ext hK3
  replace hNi2 := hNi2.ext hK3
  replace hH2 := hH2.ext hK3
  replace hc2 := hc2.ext hK3
  replace hRi3 := hRi3.ext hK3
  replace hM3 := hM3.ext hK3
  replace hH3 := hH3.ext hK3
  replace hG2P := hG2P.ext hK3
  refine cond_f (by simp) ?_
  refine LD_iiss hc0 ?_
  refine call (markProblem_ok hM0 hMe0 hlm0 hmt0 (by have := hH0.size_le; omega) _ (by omega) (by omega)) ?_
  rintro k0 wm0 ⟨hk0, hkk0, hSh, hCh⟩
  have hzk0 := hCh.size
  replace hX := hCh.extR hX (by omega)
  replace hG2P := hG2P.chgR hCh (by omega)
  replace hM1 := hM1.chg hSh hCh (by omega)
  replace hMe1 := hMe1.chg hSh hCh (by omega)
  replace hc1 := hc1.chg hCh (by omega)
  replace hM2 := hM2.chg hSh hCh (by omega)
  replace hc2 := hc2.chg hCh (by omega)
  replace hM3 := hM3.chg hSh hCh (by omega)
  refine LD_iiss hc1 ?_
  refine call (markProblem_ok hM1 hMe1 hlm1 hmt1 (by have := hH1.size_le; omega) _ (by omega) (by omega)) ?_
  rintro k1 wm1 ⟨hk1, hkk1, hSh, hCh⟩
  have hzk1 := hCh.size
  replace hX := hCh.extR hX (by omega)
  replace hG2P := hG2P.chgR hCh (by omega)
  replace hM2 := hM2.chg hSh hCh (by omega)
  replace hc2 := hc2.chg hCh (by omega)
  replace hM3 := hM3.chg hSh hCh (by omega)
  refine LD_box3 hc2 ?_
  refine call (markNetwork_at _ (by omega) (by omega) hM2 (by have := hH2.size_le; omega)) ?_
  rintro k2 wm2 ⟨hk2, hkk2, hSh, hCh⟩
  have hzk2 := hCh.size
  replace hX := hCh.extR hX (by omega)
  replace hG2P := hG2P.chgR hCh (by omega)
  replace hM3 := hM3.chg hSh hCh (by omega)
  refine call (markIntSS_ok hM3 _ (by omega) (by omega)) ?_
  rintro k3 wm3 ⟨hk3, hkk3, hSh, hCh⟩
  have hzk3 := hCh.size
  replace hX := hCh.extR hX (by omega)
  replace hG2P := hG2P.chgR hCh (by omega)
  refine cond_df (by omega) ?_
  refine call (eqIntSS_ok hG2P.rep (hL10.ext hX)) ?_
  rintro _ we3 ⟨rfl, hK⟩
  replace hX := hX.ext hK
  replace hG2P := hG2P.ext hK
  refine cond_f (by simp) ?_
  refine call (eqIntSS_ok hG2P.rep' (hL11.ext hX)) ?_
  rintro _ we4 ⟨rfl, hK⟩
  replace hX := hX.ext hK
  replace hG2P := hG2P.ext hK
  refine cond_f (by simp) ?_
  refine cond_f (by simp) ?_
  unfold V_l_FnExactSplitProduct_k11
  have hl0 := hG2P.rows
  have hll0 := hG2P.small
  have hpl0 := pre_le hll0 _ (Nat.le_refl _)
  have hl1 := hG2P.rows'
  have hll1 := hG2P.small'
  have hpl1 := pre_le hll1 _ (Nat.le_refl _)
  refine call (markIntSS_first hG2P 1 (by omega) (by omega)) ?_
  rintro mk0 wg0 ⟨hmk0, hG2P, hSt⟩
  replace hX := hSt.extB hX (by omega)
  refine call (markIntSS_second hG2P mk0 (by omega) (by omega)) ?_
  rintro mk1 wg1 ⟨hmk1, hMk0, hMk1, hSt⟩
  replace hX := hSt.extB hX (by omega)
  refine call (heldIntSS_ok 1 hMk0 (by omega) (by omega) hl0 hll0) ?_
  rintro qh _ ⟨hqh, rfl⟩
  obtain rfl : mk0 = qh := (hqh.trans hmk0.symm).symm
  refine cond_df (by omega) ?_
  refine call (heldIntSS_ok mk0 hMk1 (by omega) (by omega) hl1 hll1) ?_
  rintro qh _ ⟨hqh, rfl⟩
  obtain rfl : mk1 = qh := (hqh.trans hmk1.symm).symm
  refine cond_df (by omega) ?_
  refine cond_f (by simp) ?_
  intro wT hGT _
  replace hX := hX.ext hGT
  replace hMk0 := hMk0.ext hGT
  replace hMk1 := hMk1.ext hGT
  have hReg := Ext.refl wT
  refine LD_iiss (hb0.ext hX) (LD_iiss (hb1.ext hX) (LD_box3 (hb2.ext hX) ?_))
  refine call (toProblem_ok (h0.ext hX) hS0) ?_
  rintro _ _ zj0 uj0 wj0 ⟨rfl, rfl, hEj0, hNj0⟩
  replace hX := hX.ext hEj0
  replace hMk0 := hMk0.ext hEj0
  replace hMk1 := hMk1.ext hEj0
  replace hReg := hReg.ext hEj0
  refine ⟨hReg, ?_⟩
  refine call (toProblem_ok (h1.ext hX) hS1) ?_
  rintro _ _ zj1 uj1 wj1 ⟨rfl, rfl, hEj1, hNj1⟩
  replace hX := hX.ext hEj1
  replace hMk0 := hMk0.ext hEj1
  replace hMk1 := hMk1.ext hEj1
  replace hReg := hReg.ext hEj1
  replace hNj0 := hNj0.ext hEj1
  refine ⟨hReg, ?_⟩
  refine call (toNetwork_ok (h2.ext hX) hS2) ?_
  rintro xj2 yj2 zj2 wj2 ⟨hEj2, hNj2⟩
  replace hX := hX.ext hEj2
  replace hMk0 := hMk0.ext hEj2
  replace hMk1 := hMk1.ext hEj2
  replace hReg := hReg.ext hEj2
  replace hNj0 := hNj0.ext hEj2
  replace hNj1 := hNj1.ext hEj2
  refine ⟨hReg, ?_⟩
  refine call (toIntSS_own (h3.ext hX) hS3.1 hS3.2) ?_
  rintro sj3 wj3 ⟨hEj3, hOj3⟩
  replace hX := hX.ext hEj3
  replace hMk0 := hMk0.ext hEj3
  replace hMk1 := hMk1.ext hEj3
  replace hReg := hReg.ext hEj3
  replace hNj0 := hNj0.ext hEj3
  replace hNj1 := hNj1.ext hEj3
  replace hNj2 := hNj2.ext hEj3
  have hRj3 := hOj3.rep (flat_okII h3)
  refine ⟨hReg, ?_⟩
  refine call (SplitProduct_ok hNj0 hNj1 hNj2 hRj3 hS0 hS1 hS2 hS3) ?_
  rintro r30 r31 r32 wH ⟨hCH, r3L0, r3L1, hG3P, hA3⟩
  replace hX := hX.ext hCH
  replace hMk0 := hMk0.ext hCH
  replace hMk1 := hMk1.ext hCH
  replace hReg := hReg.ext hCH
  replace hNj0 := hNj0.ext hCH
  replace hNj1 := hNj1.ext hCH
  replace hNj2 := hNj2.ext hCH
  replace hRj3 := hRj3.ext hCH
  refine ⟨hReg, ?_⟩
  refine ⟨hReg, ?_⟩
  refine ⟨hReg, ?_⟩
  refine ⟨hReg, ?_⟩
  obtain ⟨hpr, rfl⟩ := hA1.eq hA3
  simp only [Prod.mk.injEq] at hpr
  obtain ⟨rfl, rfl⟩ := hpr
  refine call (eqIntSS_ok hG3P.rep (hL10.ext hX)) ?_
  rintro _ we5 ⟨rfl, hK⟩
  replace hX := hX.ext hK
  replace hMk0 := hMk0.ext hK
  replace hMk1 := hMk1.ext hK
  replace hNj0 := hNj0.ext hK
  replace hNj1 := hNj1.ext hK
  replace hNj2 := hNj2.ext hK
  replace hRj3 := hRj3.ext hK
  replace hG3P := hG3P.ext hK
  refine cond_f (by simp) ?_
  refine call (eqIntSS_ok hG3P.rep' (hL11.ext hX)) ?_
  rintro _ we6 ⟨rfl, hK⟩
  replace hX := hX.ext hK
  replace hMk0 := hMk0.ext hK
  replace hMk1 := hMk1.ext hK
  replace hNj0 := hNj0.ext hK
  replace hNj1 := hNj1.ext hK
  replace hNj2 := hNj2.ext hK
  replace hRj3 := hRj3.ext hK
  replace hG3P := hG3P.ext hK
  refine cond_f (by simp) ?_
  refine cond_f (by simp) ?_
  refine call (heldIntSS_ok 1 hMk0 (by omega) (by omega) hl0 hll0) ?_
  rintro qh _ ⟨hqh, rfl⟩
  obtain rfl : mk0 = qh := (hqh.trans hmk0.symm).symm
  refine cond_df (by omega) ?_
  refine call (heldIntSS_ok mk0 hMk1 (by omega) (by omega) hl1 hll1) ?_
  rintro qh _ ⟨hqh, rfl⟩
  obtain rfl : mk1 = qh := (hqh.trans hmk1.symm).symm
  refine cond_df (by omega) ?_
  refine cond_f (by simp) ?_
  exact ⟨rfl, hE.trans hX⟩

end Go.Proofs.YtlmiookpmneicaaGreat
end

section
/- Facts of this seat's program that every claim's last step asks for, each computed once (together they need more memory than a text may use). -/
namespace Go.Proofs.YtlmiookpmneicaaGreat


theorem door_enters : Tryz.pinned.checked.prog.mayEnter = true := by kernel_rfl

theorem door_lifts : Tryz.pinned.checked.prog.liftsFinal = false := by kernel_rfl

theorem door_heard : Tryz.pinned.checked.prog.stopsHeard = true := by kernel_rfl

theorem door_laid : laidOutB Tryz.pinned.checked.prog = true := by kernel_rfl

theorem door_maps : mapsRowed Tryz.pinned.checked.prog = true := by kernel_rfl

end Go.Proofs.YtlmiookpmneicaaGreat
end
