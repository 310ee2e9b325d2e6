/- slices.Concat at []int (with slices.Grow): the lists one behind the other, in memory of the call's own. -/
import Derived.Test.YtknnjkmggenliaaColl
namespace Go.GX
open Go.RowKit

/-- append(s, make([]T, n)...) on a nil slice. -/
theorem run_append_made {P : Program} (w : World) (t ti ty e : TypeId) (k : IntKind) (i : TypeInfo) (z : Value) (ht : P.underlying t = some (.slice e)) (hti : P.underlying ti = some (.int k)) (hi : P.info? e = some i) (hz : i.zero = some z)
    (n : Nat) (h0 : 0 < n) (hsz : 0 < i.size) (h63 : n ≤ 1048576) (h48 : n * i.bytes ≤ 281474976710656) :
    (Builtin.append_ #[t, ti] ty #[.slice none 0 0, .int .i64 n]).run P w =
      .ok (.slice (some ⟨w.heap.size, 0, none⟩) n (grownCap w n 0 e)) (w.drew.alloc (.cells (Builtin.zeroCells z.cells n ++ Builtin.zeroCells z.cells (grownCap w n 0 e - n)) e)) := by
  have hn : n ≠ 0 := by omega
  have hw : IntKind.i64.wrap (n : Int) = n := wrap_of (by omega) (by omega)
  have h63' : ¬ (9223372036854775807 < (n : Int)) := by omega
  have h48' : ¬ (281474976710656 < Builtin.nextslicecap n 0 * i.bytes) := by rw [nextslicecap_zero h0]; omega
  have h48'' : ¬ (281474976710656 < (n : Int) * (i.bytes : Int)) := by
    have : ((n * i.bytes : Nat) : Int) ≤ 281474976710656 := by omega
    push_cast at this; omega
  have hns : ¬ (n * i.size = 0) := by
    have := Nat.mul_pos h0 hsz; omega
  have hneg : ¬ ((n : Int) < 0) := by omega
  simp [Builtin.append_, run_underlying ht, run_underlying hti, sizeOf, typeInfo, zeroValue, hi, hz, asInt, asIntOf, hw, hneg, h48'', hn, h63', h48', Question.forced, run_firstCells_none, newRow, grownCap]
  exact fun h => absurd h hns

/-- An empty slice of the call's own, in a block made just now. -/
theorem own_empty {α : Type} [Flat α] {w w' : World} {e : TypeId} {cap : Nat} {cur : Array Value} (hg : w'.heap[w.heap.size]? = some (.cells cur e (0, 0))) (hm : cap ≤ maxLen) (hs : cur.size = cap * Rep.sz α) : OwnL w' w.heap.size e ⟨some ⟨w.heap.size, 0, none⟩, 0, cap⟩ ([] : List α) :=
  ⟨rfl, by simp, .inr ⟨w.heap.size, cap, cur, rfl, Nat.le_refl _, hg, Nat.zero_le _, hm, hs, by simp⟩⟩

/-- A literal of two slices. -/
theorem RUN_lits2 {P : Program} {t e : TypeId} {bytes : Nat} {z : Value} (hT : SlT P t e 1 bytes z) (x y : Sl) {w : World} {K : Sl → World → Prop}
    (hk : ∀ s w', Ext w w' → OwnL w' w.heap.size e s [x, y] → K s w') : RUN P (.at .sl) (Instr.buildSlice t 2 #[(0, x.v), (1, y.v)]) w K := by
  obtain ⟨i, hi, hz0, hsz, hby⟩ := hT.parts
  have hr := run_buildSlice (P := P) w t e 2 #[(0, x.v), (1, y.v)] #[x.v, y.v] i z hT.under hi hz0 (by rw [hsz]; omega) (by rw [hsz]; omega) (by
    have hp : (#[(0, x.v), (1, y.v)] : Array (Nat × Value)).toList = (([x.v, y.v]).zipIdx 0).map fun x => (x.2, x.1) := rfl
    rw [hsz, hp, fill_ones _ 0 _ (by intro v hv; simp at hv; rcases hv with rfl | rfl <;> rfl) (by simp)]
    simp)
  unfold RUN
  rw [hr]
  refine hk ⟨some ⟨w.heap.size, 0, none⟩, 2, 2⟩ _ (ext_push w _) ⟨rfl, ?_⟩
  have := World.ownsRow_lit (base := w.heap.size) (e := e) (size := 1) w #[x.v, y.v] 2 (Nat.le_refl _) (by unfold maxLen; omega) (by simp)
  exact this

end Go.GX
namespace Go.Proofs.Ytknnjkmggenliaa
open Go.GX Go.RowKit
set_option maxRecDepth 100000

theorem grow_nil_ok {n : Nat} (hn : n ≤ 1048576) (w : World) :
    Calls Try.prog F.slices_Grow_sl_int_int #[.slice none 0 0, .int .i64 n] w (Ret [.at .sl] fun (r : Sl) w' => Ext w w' ∧ OwnL w' w.heap.size T.t_int r ([] : List Int)) := by
  refine C_slices_Grow_sl_int_int (s := ⟨none, 0, 0⟩) ?_
  unfold V_slices_Grow_sl_int_int
  refine cond_df (by omega) ?_
  have hcap : ∀ {K : Int → World → Prop}, K 0 w → RUN Try.prog (.at (.int .i64)) (bsem .cap #[T.t_sl_int] T.t_int #[(⟨none, 0, 0⟩ : Sl).v]) w K := fun hk => by
    have hu := slt_int.under
    unfold RUN
    show (match (Builtin.cap_ #[T.t_sl_int] T.t_int #[.slice none 0 0]).run Try.prog w with | .ok v w' => _ | .halt _ _ => False)
    have : (Builtin.cap_ #[T.t_sl_int] T.t_int #[.slice none 0 0]).run Try.prog w = .ok (.int .i64 0) w := by simp [Builtin.cap_, underlying_run hu, goInt]
    rw [this]
    exact hk
  refine hcap ?_
  have e1 : IntKind.i64.wrap ((n : Int) - IntKind.i64.wrap (0 - ((⟨none, 0, 0⟩ : Sl).len : Int))) = n := by
    have e0 : IntKind.i64.wrap (0 - ((⟨none, 0, 0⟩ : Sl).len : Int)) = 0 := by rw [wrap_of (by simp) (by simp)]; rfl
    rw [e0, wrap_of (by omega) (by omega)]; omega
  rw [e1]
  refine cond_dec (fun hpos => ?_) (fun hz => ⟨Ext.refl _, OwnL.nil _ _ _⟩)
  refine hcap ?_
  refine ⟨by simp, by simp, by simp, ?_⟩
  obtain ⟨i, hi, hz0, hsz, hby⟩ := slt_int.parts
  have hr := run_append_made (P := Try.prog) w T.t_sl_int T.t_int T.t_sl_int T.t_int .i64 i (.int .i64 0) slt_int.under (by kernel_rfl) hi hz0 n (by omega) (by rw [hsz]; decide) hn (by rw [hby]; omega)
  show RUN Try.prog (.at .sl) (bsem .append #[T.t_sl_int, T.t_int] T.t_sl_int #[.slice none 0 0, .int .i64 n]) w _
  unfold RUN
  show (match (Builtin.append_ #[T.t_sl_int, T.t_int] T.t_sl_int #[.slice none 0 0, .int .i64 n]).run Try.prog w with | .ok v w' => _ | .halt _ _ => False)
  rw [hr]
  have hge := grownCap_ge w n 0 T.t_int
  have hle := grownCap_le_maxLen w n 0 T.t_int (by unfold maxLen; omega)
  have hheap : (w.drew.alloc (.cells (Builtin.zeroCells (Value.int .i64 0).cells n ++ Builtin.zeroCells (Value.int .i64 0).cells (grownCap w n 0 T.t_int - n)) T.t_int)).heap = w.heap.push (.cells (Builtin.zeroCells (Value.int .i64 0).cells n ++ Builtin.zeroCells (Value.int .i64 0).cells (grownCap w n 0 T.t_int - n)) T.t_int) := rfl
  have hE : Ext w (w.drew.alloc (.cells (Builtin.zeroCells (Value.int .i64 0).cells n ++ Builtin.zeroCells (Value.int .i64 0).cells (grownCap w n 0 T.t_int - n)) T.t_int)) := ⟨rfl, rfl, rfl, by rw [hheap]; simp, fun k hk => by rw [hheap]; simp [Array.getElem?_push, Nat.ne_of_lt hk]⟩
  generalize w.drew.alloc (.cells (Builtin.zeroCells (Value.int .i64 0).cells n ++ Builtin.zeroCells (Value.int .i64 0).cells (grownCap w n 0 T.t_int - n)) T.t_int) = W at *
  generalize hcap' : grownCap w n 0 T.t_int = c at *
  have hone : (Value.int .i64 0).cells = #[.int .i64 0] := rfl
  have fin : SLC ⟨some ⟨w.heap.size, 0, none⟩, n, c⟩ none (some (0 : Int)) 1 fun x => Ext w W ∧ OwnL W w.heap.size T.t_int x ([] : List Int) := by
    refine ⟨by simp, by simp, by simp, hE, ?_⟩
    have hc0 : c ≠ 0 := by omega
    simp only [Option.getD_none, Int.toNat_zero, Option.getD_some, Nat.sub_zero, hc0, if_false, Option.map_some, Nat.zero_mul, add_zero']
    have hg : W.heap[w.heap.size]? = some (.cells (Builtin.zeroCells (Value.int .i64 0).cells n ++ Builtin.zeroCells (Value.int .i64 0).cells (c - n)) T.t_int (0, 0)) := by rw [hheap]; exact Array.getElem?_push_size
    refine own_empty (α := Int) hg hle ?_
    rw [Array.size_append, size_zeroCells, size_zeroCells, hone]
    simp [Rep.sz]
    omega
  exact fin

/-- The lists one behind the other. -/
theorem concat_ok {w : World} {s : Sl} {L : List (List Int)} (h : R w s L) (hl : L.length ≤ 1000) (hll : ∀ r ∈ L, r.length ≤ 1000) :
    Calls Try.prog F.slices_Concat_sl_int_int #[s.v] w (Ret [.at .sl] fun (r : Sl) w' => Ext w w' ∧ OwnL w' w.heap.size T.t_int r L.flatten) := by
  refine C_slices_Concat_sl_int_int ?_
  unfold V_slices_Concat_sl_int_int
  rw [h.len]
  have hpl : ∀ i, i ≤ L.length → ((L.take i).flatten).length ≤ 1000 * i := by
    intro i
    induction i with
    | zero => simp
    | succ i ih =>
      intro hi
      rw [List.take_succ_eq_append_getElem (by omega), List.flatten_append, List.length_append]
      have := ih (by omega)
      have := hll _ (List.getElem_mem (show i < L.length by omega))
      simp only [List.flatten_cons, List.flatten_nil, List.append_nil]; omega
  refine ⟨IN2 L.length fun i x w' => w = w' ∧ x = ((L.take i).flatten).length, MN2 L.length, IN2_zero ⟨rfl, by simp⟩, ?_⟩
  rintro _ _ _ ⟨i, rfl, hi, rfl, rfl⟩
  intros
  have h1 := hpl i hi
  refine cond_dec (fun hlt => ?_) (fun hge => ?_)
  · have hi' : i < L.length := by omega
    have h2 := hpl (i + 1) (by omega)
    have e2 : ((L.take (i + 1)).flatten).length = ((L.take i).flatten).length + L[i].length := by
      rw [List.take_succ_eq_append_getElem hi', List.flatten_append, List.length_append]; simp only [List.flatten_cons, List.flatten_nil, List.append_nil]
    refine h.ixL hi' fun p r hr hc => LD_sl hc ?_
    rw [hr.len, wrap_of (n := _ + _) (by omega) (by omega)]
    refine cond_df (by omega) (IN2_next (by omega) hi' ⟨rfl, by omega⟩)
  · have : i = L.length := by omega
    subst this
    rw [List.take_length] at h1 ⊢
    refine call (grow_nil_ok (by omega) w) ?_
    rintro r w1 ⟨hE1, hO1⟩
    refine ⟨IN2 L.length fun i (x : Sl) w' => Ext w w' ∧ OwnL w' w.heap.size T.t_int x (L.take i).flatten, MN2 L.length, IN2_zero ⟨hE1, by simpa using hO1⟩, ?_⟩
    rintro x _ w2 ⟨i, rfl, hi, hE2, hO2⟩
    intros
    refine cond_dec (fun hlt => ?_) (fun hge => ?_)
    · have hi' : i < L.length := by omega
      have h2 := hpl (i + 1) (by omega)
      have e2 : ((L.take (i + 1)).flatten) = ((L.take i).flatten) ++ L[i] := by
        rw [List.take_succ_eq_append_getElem hi', List.flatten_append]; simp
      have e3 := congrArg List.length e2
      rw [List.length_append] at e3
      refine (h.ext hE2).ixL hi' fun p r hr hc => LD_sl hc ?_
      refine RUN_append (α := Int) slt_int hO2 hE2.size_le hr.any (by omega) (by unfold maxLen; omega) fun r' w3 hO3 hs3 => ?_
      exact IN2_next (by omega) hi' ⟨hs3.ext0 hE2 (fun k hk => (hO2.blk k hk).1), by rw [e2]; exact hO3⟩
    · have : i = L.length := by omega
      subst this
      exact ⟨hE2, by simpa using hO2⟩

end Go.Proofs.Ytknnjkmggenliaa
