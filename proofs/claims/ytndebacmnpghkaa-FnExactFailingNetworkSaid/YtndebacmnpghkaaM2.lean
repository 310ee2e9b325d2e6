/- Own texts, merged: Coll, Sorted, Good, Near, Edges, Col, Match, Sets, Max, Write, Mark, Copy, Lib, Order, RowsD, Mat, Conf, Prob, Trod, Open, Drop, Reduce, ProbIn, EdgeCol, Fault, Solution, BadIx, Concat, Double. -/
import Derived.Test.YtndebacmnpghkaaM1
import Derived.Sort.OwnSortedInts
import Derived.Maps.AppendAt
import Derived.Laws.IdiomCopy
import Derived.Deep.Slices
import Derived.Lib.SmallJoins
import Derived.OpenShut
import Derived.ShutString
import Derived.ChangeOld
import Derived.Carry
import Derived.ProofKit
set_option linter.unusedVariables false
section
/- Contracts of the functions on lists of numbers: sorting, copying, searching, ranges. -/
namespace Go.Proofs.Ytndebacmnpghkaa
open Go.GX Go.RowKit
set_option maxRecDepth 100000

/-! ### slices.Sort, slices.Clone -/

def sortI (l : List Int) : List Int := l.mergeSort fun x y => decide (x ≤ y)

theorem flatI (l : List Int) : l.flatMap Flat.cells = l.map (Value.int .i64) := by
  induction l with
  | nil => rfl
  | cons x r ih => rw [List.flatMap_cons, ih]; rfl

theorem Ret_nil {Q : World → Prop} {w : World} (h : Q w) : Ret [] Q (.returned (.tuple #[])) w := h

theorem sort_ok {w : World} {base : Nat} {s : Sl} {l : List Int} (h : OwnL w base T.t_int s l) (hl : l.length ≤ 1048576) :
    Calls Try.prog F.slices_Sort_sl_int_int #[s.v] w (Ret [] fun w' => OwnL w' base T.t_int s (sortI l) ∧ Step w w' s.v.ownBlock) := by
  rcases h.2.2 with ⟨hv, h0⟩ | ⟨g, cap, cur, hv, hb, hg, hle, hmx, hsz, htake⟩
  · have hnil : l = [] := by rw [h.1] at h0; exact List.length_eq_zero_iff.1 h0
    subst hnil
    have hlen : s.len = 0 := h0
    have hsv : s.v = .slice s.a 0 s.cap := by rw [← hlen]
    rw [hsv]
    refine (Srt.slices_Sort_int_none s.a s.cap w).mono ?_
    rintro e w' ⟨rfl, rfl⟩
    exact Ret_nil ⟨by simpa [sortI] using h, Step.refl _ _⟩
  · have htake' : cur.toList.take l.length = l.map (Value.int .i64) := by rw [← flatI, ← htake, h.1]; simp [Rep.sz]
    have hsv : s.v = .slice (some ⟨g, 0, none⟩) l.length cap := by rw [← h.1]; exact hv
    rw [hsv]
    refine (Srt.slices_Sort_int g 0 cap l w (holds_of_blockI hg htake') (Array.getElem?_eq_some_iff.1 hg).1 (by omega)).mono ?_
    rintro e w' ⟨rfl, n, os, rfl⟩
    refine Ret_nil ⟨⟨by simp [sortI, h.1], ?_⟩, Step.of_grown (grownBy_sortedI _)⟩
    unfold Go.GX.Own
    rw [h.1, hsv, flatI]
    exact ownsRow_sortedI (by simp) hb hg (by rw [← h.1]; exact hle) hmx hsz

theorem clone_ok {w : World} {s : Sl} {l : List Int} (h : R w s l) (hl : l.length ≤ 1048576) :
    Calls Try.prog F.slices_Clone_sl_int_int #[s.v] w (Ret [.at .sl] fun (r : Sl) w' => Ext w w' ∧ OwnL w' w.heap.size T.t_int r l) := by
  refine C_slices_Clone_sl_int_int ?_
  unfold V_slices_Clone_sl_int_int
  refine cond_b (fun hn => ?_) (fun _ => ?_)
  · have hnil : l = [] := by
      cases l with
      | nil => rfl
      | cons x r => obtain ⟨a, _, ha, _⟩ := h.2.2 0 x rfl; rw [ha] at hn; cases hn
    subst hnil
    exact ⟨Ext.refl _, OwnL.nil _ _ _⟩
  · refine RUN_lit0 (α := Int) slt_int fun r w1 hE1 hO1 => ?_
    refine RUN_append (α := Int) slt_int hO1 hE1.size (h.ext hE1) (by simp; omega) (by simp [maxLen]; omega) fun r' w2 hO2 hs => ?_
    exact ⟨hs.ext0 hE1 (fun k hk => (hO1.blk k hk).1), by simpa using hO2⟩

/-! ### Ranges -/

/-- Strictly increasing, step by step. -/
def Incr (l : List Int) : Prop := ∀ i, (h : i + 1 < l.length) → l[i] < l[i + 1]

def AllIn (l : List Int) (lo hi : Int) : Prop := ∀ x ∈ l, lo ≤ x ∧ x ≤ hi

theorem allIn_take_succ {l : List Int} {lo hi : Int} {i : Nat} (hi' : i < l.length) (h : AllIn (l.take i) lo hi) (hx : lo ≤ l[i] ∧ l[i] ≤ hi) : AllIn (l.take (i + 1)) lo hi := fun x hm => by
  rw [List.take_succ_eq_append_getElem hi'] at hm
  rcases List.mem_append.1 hm with h1 | h1
  · exact h x h1
  · rw [List.mem_singleton.1 h1]; exact hx

theorem l1All_ok {w : World} {s : Sl} {l : List Int} (h : R w s l) (lo hi : Int) :
    Calls Try.prog F.s_l1All #[s.v, .int .i64 lo, .int .i64 hi] w (Ret [.at .bool] fun (b : Bool) w' => (b = true ↔ AllIn l lo hi) ∧ w = w') := by
  refine C_s_l1All ?_
  unfold V_s_l1All
  rw [h.len]
  refine ⟨IN l.length fun i w' => w = w' ∧ AllIn (l.take i) lo hi, MN l.length, IN_zero ⟨rfl, fun x hx => by simp at hx⟩, ?_⟩
  rintro x _ ⟨i, rfl, hi', rfl, ha⟩
  intros
  refine cond_dec (fun hlt => ?_) (fun hge => ⟨?_, rfl⟩)
  · have hlt' : i < l.length := by omega
    refine h.ixI hlt' fun p _ hc => LD_int hc ?_
    refine call (l1In_ok _ _ _ _) ?_
    rintro b _ ⟨hb, rfl⟩
    refine cond_not (fun hf => ⟨?_, rfl⟩) (fun ht => IN_next h.le hlt' ⟨rfl, allIn_take_succ hlt' ha (inR_true (hb ▸ ht))⟩)
    simp only [Bool.false_eq_true, false_iff]
    intro hall
    exact inR_false (hb ▸ hf) (hall _ (List.getElem_mem hlt'))
  · have : i = l.length := by omega
    subst this
    simpa using ha

/-- What both sides' test of increasing lists comes to. -/
def Rising (l : List Int) (lo hi : Int) : Prop := AllIn l lo hi ∧ Incr l

theorem incr_take_succ {l : List Int} {i : Nat} (hi : i < l.length) (h : Incr (l.take i)) (hx : ∀ (h0 : 0 < i), l[i - 1] < l[i]) : Incr (l.take (i + 1)) := by
  intro j hj
  simp at hj
  have h1 : (l.take (i + 1))[j]'(by simp; omega) = l[j]'(by omega) := by simp
  have h2 : (l.take (i + 1))[j + 1]'(by simp; omega) = l[j + 1]'(by omega) := by simp
  rw [h1, h2]
  by_cases hji : j + 1 = i
  · subst hji; exact hx (by omega)
  · have := h j (by simp; omega)
    simpa using this

theorem increasing_ok {w : World} {s : Sl} {l : List Int} (h : R w s l) (lo hi : Int) :
    Calls Try.prog F.i_increasing #[s.v, .int .i64 lo, .int .i64 hi] w (Ret [.at .bool] fun (b : Bool) w' => (b = true ↔ Rising l lo hi) ∧ w = w') := by
  refine C_i_increasing ?_
  unfold V_i_increasing
  rw [h.len]
  refine ⟨IN l.length fun i w' => w = w' ∧ AllIn (l.take i) lo hi ∧ Incr (l.take i), MN l.length, IN_zero ⟨rfl, fun x hx => by simp at hx, fun j hj => by simp at hj⟩, ?_⟩
  rintro x _ ⟨i, rfl, hi', rfl, ha, hinc⟩
  intros
  have hle := h.le
  refine cond_dec (fun hlt => ?_) (fun hge => ⟨?_, rfl⟩)
  · have hlt' : i < l.length := by omega
    refine h.ixI hlt' fun p _ hc => LD_int hc ?_
    refine call (within_ok _ _ _ _) ?_
    rintro b _ ⟨hb, rfl⟩
    refine cond_not (fun hf => ⟨?_, rfl⟩) (fun ht => ?_)
    · simp only [Bool.false_eq_true, false_iff]
      intro hall
      exact inR_false (hb ▸ hf) (hall.1 _ (List.getElem_mem hlt'))
    · have hr := inR_true (hb ▸ ht)
      refine cond_dec (fun hpos => ?_) (fun hnp => ?_)
      · have hpos' : 0 < i := by omega
        have e1 : IntKind.i64.wrap ((i : Int) - 1) = ((i - 1 : Nat) : Int) := by rw [wrap_of (by omega) (by omega)]; omega
        rw [e1]
        refine h.ixI (by omega) fun p _ hc => LD_int hc ?_
        refine cond_dec (fun hge2 => ⟨?_, rfl⟩) (fun hlt2 => ?_)
        · simp only [Bool.false_eq_true, false_iff]
          intro hall
          have := hall.2 (i - 1) (by omega)
          simp only [show i - 1 + 1 = i by omega] at this
          omega
        · exact IN_next hle hlt' ⟨rfl, allIn_take_succ hlt' ha hr, incr_take_succ hlt' hinc fun _ => by omega⟩
      · exact IN_next hle hlt' ⟨rfl, allIn_take_succ hlt' ha hr, incr_take_succ hlt' hinc fun h0 => absurd h0 (by omega)⟩
  · have : i = l.length := by omega
    subst this
    simp at ha hinc
    simp [Rising, ha, hinc]

/-! ### Searching with a function -/

/-- A function value that answers p for each element of a list, whatever the world that goes on from this one. -/
def Answers (w : World) (f : Value) (l : List Int) (p : Int → Bool) : Prop :=
  ∀ x ∈ l, ∀ w', Ext w w' → CALLV Try.prog f #[.int .i64 x] w' (Ret [.at .bool] fun (b : Bool) w'' => b = p x ∧ Ext w' w'')

theorem callv {P : Program} {f : Value} {args : Array Value} {w : World} {rs : List Sh} {Q Q' : Cur (World → Prop) (atsR rs)} (h : CALLV P f args w (Ret rs Q)) (hk : CurLe (atsR rs) Q Q') : CALLV P f args w (Ret rs Q') := by
  obtain ⟨g, caps, h1, h2, h3⟩ := h
  exact ⟨g, caps, h1, h2, call h3 hk⟩

theorem indexFuncI_ok {w : World} {s : Sl} {l : List Int} (h : R w s l) {f : Value} {p : Int → Bool} (hf : Answers w f l p) :
    Calls Try.prog F.slices_IndexFunc_sl_int_int #[s.v, f] w (Ret [.at (.int .i64)] fun (i : Int) w' => (match l.findIdx? p with | some k => i = k | none => i = -1) ∧ Ext w w') := by
  refine C_slices_IndexFunc_sl_int_int ?_
  unfold V_slices_IndexFunc_sl_int_int
  rw [h.len]
  refine ⟨IN l.length fun i w' => Ext w w' ∧ ∀ x ∈ l.take i, p x = false, MN l.length, IN_zero ⟨Ext.refl _, by simp⟩, ?_⟩
  rintro x w1 ⟨i, rfl, hi', hE, ha⟩
  intros
  refine cond_dec (fun hlt => ?_) (fun hge => ⟨?_, hE⟩)
  · have hlt' : i < l.length := by omega
    refine (h.ext hE).ixI hlt' fun q _ hc => LD_int hc ?_
    refine callv (hf _ (List.getElem_mem hlt') w1 hE) ?_
    rintro b w2 ⟨rfl, hE2⟩
    refine cond_b (fun ht => ⟨?_, hE.trans hE2⟩) (fun hf => ?_)
    · have : l.findIdx? p = some i := by
        rw [List.findIdx?_eq_some_iff_getElem]
        refine ⟨hlt', ht, fun j hj => ?_⟩
        have := ha l[j] (by rw [List.mem_take_iff_getElem]; exact ⟨j, by omega, rfl⟩)
        simp [this]
      rw [this]
    · refine IN_next h.le hlt' ⟨hE.trans hE2, fun y hy => ?_⟩
      rw [List.take_succ_eq_append_getElem hlt'] at hy
      rcases List.mem_append.1 hy with h1 | h1
      · exact ha y h1
      · rw [List.mem_singleton.1 h1]; exact hf
  · have : i = l.length := by omega
    subst this
    have : l.findIdx? p = none := by
      rw [List.findIdx?_eq_none_iff]
      intro y hy
      exact ha y (by simpa using hy)
    rw [this]

theorem containsFuncI_ok {w : World} {s : Sl} {l : List Int} (h : R w s l) {f : Value} {p : Int → Bool} (hf : Answers w f l p) :
    Calls Try.prog F.slices_ContainsFunc_sl_int_int #[s.v, f] w (Ret [.at .bool] fun (b : Bool) w' => b = l.any p ∧ Ext w w') := by
  refine C_slices_ContainsFunc_sl_int_int ?_
  unfold V_slices_ContainsFunc_sl_int_int
  refine call (indexFuncI_ok h hf) ?_
  rintro i w1 ⟨hi, hE⟩
  refine ⟨?_, hE⟩
  cases hf : l.findIdx? p with
  | none =>
    rw [hf] at hi
    simp only at hi
    subst hi
    have h1 := List.findIdx?_eq_none_iff.1 hf
    have : l.any p = false := by
      rw [List.any_eq_false]; intro x hx; simp [h1 x hx]
    rw [this]; rfl
  | some k =>
    rw [hf] at hi
    simp only at hi
    subst hi
    obtain ⟨hk, hp, _⟩ := List.findIdx?_eq_some_iff_getElem.1 hf
    have : l.any p = true := List.any_eq_true.2 ⟨l[k], List.getElem_mem hk, hp⟩
    rw [this]
    simp

theorem allWithin_ok {w : World} {s : Sl} {l : List Int} (h : R w s l) (lo hi : Int) :
    Calls Try.prog F.i_allWithin #[s.v, .int .i64 lo, .int .i64 hi] w (Ret [.at .bool] fun (b : Bool) w' => (b = true ↔ AllIn l lo hi) ∧ Ext w w') := by
  refine C_i_allWithin ?_
  unfold V_i_allWithin
  refine NEW_intro fun p1 w1 hp1 hs1 hE1 hb1 => ?_
  refine NEW_intro fun p2 w2 hp2 hs2 hE2 hb2 => ?_
  have hb1' := hb1.ext hE2
  have hE := hE1.trans hE2
  refine call (containsFuncI_ok (p := fun x => !inR x lo hi) (h.ext hE) ?_) ?_
  · intro x hx w' hw'
    refine CALLV_mk (by kernel_rfl) (C_i_allWithin_1 ?_)
    unfold V_i_allWithin_1
    refine LD_bi (hb1'.ext hw') (LD_bi (hb2.ext hw') ?_)
    refine call (within_ok _ _ _ _) ?_
    rintro b _ ⟨rfl, rfl⟩
    exact ⟨rfl, Ext.refl _⟩
  · rintro b w3 ⟨rfl, hE3⟩
    refine ⟨?_, hE.trans hE3⟩
    simp [AllIn, inR]

/-! ### Identifiers, inputs -/

def IdsOk (ids : List Int) (k : Nat) : Prop := AllIn ids 1 999999 ∧ ids.Nodup ∧ (ids.length = 0 ∨ ids.length = k)

theorem incr_iff_pairwise {l : List Int} : Incr l ↔ l.Pairwise (· < ·) := by
  constructor
  · intro h
    rw [List.pairwise_iff_getElem]
    intro i j hi hj hij
    induction j with
    | zero => omega
    | succ j ih =>
      rcases Nat.lt_or_eq_of_le (Nat.le_of_lt_succ hij) with h1 | h1
      · exact Int.lt_trans (ih (by omega) h1) (h j hj)
      · subst h1; exact h i hj
  · intro h i hi
    exact (List.pairwise_iff_getElem.1 h) i (i + 1) (by omega) hi (by omega)

theorem sortI_perm (l : List Int) : (sortI l).Perm l := List.mergeSort_perm _ _

theorem sortI_sorted (l : List Int) : (sortI l).Pairwise (· ≤ ·) := by
  have := List.pairwise_mergeSort (le := fun x y : Int => decide (x ≤ y)) (fun a b c h1 h2 => by simp at *; omega) (fun a b => by simp; omega) l
  exact this.imp (by intro a b h; simpa using h)

theorem incr_sortI {l : List Int} : Incr (sortI l) ↔ l.Nodup := by
  rw [incr_iff_pairwise, ← (sortI_perm l).nodup_iff]
  constructor
  · intro h; exact h.imp (fun h => by omega)
  · intro h
    exact (List.pairwise_and_iff.2 ⟨sortI_sorted l, h⟩).imp (fun ⟨h1, h2⟩ => by omega)

theorem allIn_sortI {l : List Int} {lo hi : Int} : AllIn (sortI l) lo hi ↔ AllIn l lo hi :=
  ⟨fun h x hx => h x ((sortI_perm l).mem_iff.2 hx), fun h x hx => h x ((sortI_perm l).mem_iff.1 hx)⟩

theorem idsOk_ok {w : World} {s : Sl} {l : List Int} (h : R w s l) (hl : l.length ≤ 1048576) (k : Nat) :
    Calls Try.prog F.i_idsOk #[s.v, .int .i64 k] w (Ret [.at .bool] fun (b : Bool) w' => (b = true ↔ IdsOk l k) ∧ Ext w w') := by
  refine C_i_idsOk ?_
  unfold V_i_idsOk
  rw [h.len]
  refine cond_eq (fun h0 => ⟨?_, Ext.refl _⟩) (fun h0 => ?_)
  · have : l = [] := List.length_eq_zero_iff.1 (by omega)
    subst this
    simp [IdsOk, AllIn]
  · refine call (clone_ok h hl) ?_
    rintro r w1 ⟨hE1, hO1⟩
    refine call (sort_ok hO1 hl) ?_
    rintro w2 ⟨hO2, hs2⟩
    have hE2 := hs2.ext0 hE1 (fun k hk => (hO1.blk k hk).1)
    refine cond_eq (fun he => ?_) (fun hne => ⟨?_, hE2⟩)
    · have hr := hO2.rep (fun x hx => flat_ok h x ((sortI_perm l).mem_iff.1 hx))
      refine call (increasing_ok hr.any 1 999999) ?_
      rintro b _ ⟨hb, rfl⟩
      refine ⟨?_, hE2⟩
      rw [hb]
      unfold Rising IdsOk
      rw [incr_sortI, allIn_sortI]
      constructor
      · intro ⟨h1, h2⟩; exact ⟨h1, h2, .inr (by omega)⟩
      · intro ⟨h1, h2, _⟩; exact ⟨h1, h2⟩
    · simp only [Bool.false_eq_true, false_iff]
      rintro ⟨_, _, h1 | h1⟩
      · omega
      · omega

theorem inputsOk_ok {w : World} {s : Sl} {l : List Int} (h : R w s l) (k : Nat) :
    Calls Try.prog F.i_inputsOk #[s.v, .int .i64 k] w (Ret [.at .bool] fun (b : Bool) w' => (b = true ↔ l.length = k ∧ AllIn l 0 9) ∧ Ext w w') := by
  refine C_i_inputsOk ?_
  unfold V_i_inputsOk
  rw [h.len]
  refine cond_eq (fun he => ?_) (fun hne => ⟨?_, Ext.refl _⟩)
  · refine call (allWithin_ok h 0 9) ?_
    rintro b w1 ⟨hb, hE⟩
    refine ⟨?_, hE⟩
    rw [hb]
    constructor
    · intro h1; exact ⟨by omega, h1⟩
    · exact fun h1 => h1.2
  · simp only [Bool.false_eq_true, false_iff]
    intro h1; omega

end Go.Proofs.Ytndebacmnpghkaa
end

section
/- slices.AppendSeq(nil, slices.Values(s)), slices.Collect, slices.Sorted at []int. The walk of the loop is turned from the kit's worked texts (a loop over slices.Values; the shelf's slices.Collect). -/
namespace Go.Proofs.Ytndebacmnpghkaa
open Go Go.RowKit Go.Shelf Go.Proofs

attribute [local go_sem] Oper.semAt_some

theorem boxCell {W : World} {B : Nat} {v : Value} {t : TypeId} (h : W.heap[B]? = some (.cells #[v] t (0, 0))) : W.cell? ⟨B, 0, none⟩ = some v ∧ W.frozen? ⟨B, 0, none⟩ = false := by
  constructor
  · simp [World.cell?, h]
  · simp [World.frozen?, h]

theorem setCell_box {W : World} {B : Nat} {u v : Value} {t : TypeId} (h : W.heap[B]? = some (.cells #[u] t (0, 0))) : (W.setCell ⟨B, 0, none⟩ v).heap[B]? = some (.cells #[v] t (0, 0)) := by
  simp [World.setCell, Array.getElem?_modify, h]

theorem rowNe {W : World} {base : Nat} {e : TypeId} {size : Nat} {v : Value} {k : Nat} {xs : List Value} (h : W.ownsRow base e size v k xs) {j : Nat} {o : Obj} (hj : W.heap[j]? = some o) (hno : ∀ cur, o ≠ .cells cur e (0, 0)) :
    v.ownBlock = none ∨ v.ownBlock ≠ some j := by
  rcases h.2 with ⟨rfl, _⟩ | ⟨g, cap, cur, rfl, _, hg, _⟩
  · exact .inl rfl
  · refine .inr fun e' => ?_
    cases e'
    rw [hg] at hj
    exact hno cur (by cases hj; rfl)

theorem rowAbides {W W' : World} {row : Option Nat} {base : Nat} {e : TypeId} {size : Nat} {v : Value} {k : Nat} {xs : List Value} (h : W.ownsRow base e size v k xs) (hg : W.grownBy W' row)
    (hr : ∀ r, row = some r → ∃ o : Obj, W.heap[r]? = some o ∧ o.isCells = false) : W'.ownsRow base e size v k xs := by
  refine h.kept hg ?_
  cases row with
  | none => cases hv : v.ownBlock <;> simp
  | some r =>
    obtain ⟨o, ho, hc⟩ := hr r rfl
    exact rowNe h ho (fun cur e' => by subst e'; simp [Obj.isCells] at hc)

/-- Between two rounds: the box holds a slice that owns what has come so far, in a block of the call's own. -/
def ApAt (base Bs : Nat) (ss : List Int) (W : World) : Prop :=
  ∃ v, W.heap[Bs]? = some (.cells #[v] 25 (0, 0)) ∧ W.ownsRow base 3 1 v ss.length (ss.map (Value.int .i64))

theorem apAt_own (base Bs : Nat) : Go.Own (ApAt base Bs) := fun ss A B row ⟨v, hv, ho⟩ hg hr => by
  refine ⟨v, ?_, rowAbides ho hg hr⟩
  refine (hg.block Bs (Array.getElem?_eq_some_iff.1 hv).1 (fun e => ?_)).trans hv
  obtain ⟨o, h1, h2⟩ := hr Bs e.symm
  rw [hv] at h1; cases h1; simp [Obj.isCells] at h2

theorem infoI : (Try.prog.info? 3).map (fun i => (i.zero, i.size, i.bytes)) = some (some (.int .i64 0), 1, 8) := by kernel_rfl

set_option maxRecDepth 100000 in
set_option maxHeartbeats 4000000 in
theorem appendSeq_in (Fe : Fence) (n : Nat) (hA : Fe.fn 75) (h7 : Fe.fn 70) (hro : Fe.round = none) (hn : 3 ≤ n) (Bs : Nat) (sv : Value) (zs : List Int) (hreach : zs.length * 8 ≤ 140737488351232)
    (w : World) (hBs : Bs < w.heap.size) (hc : w.cell? ⟨Bs, 0, none⟩ = some sv) (hI : IntsIn w.heap.size w sv zs) :
    CallsIn Fe n Try.prog 75 #[.slice none 0 0, .func (.func 70) #[] #[.pointer (some ⟨Bs, 0, none⟩)]] w fun e w' =>
      ∃ v, e = .returned v ∧ w'.ownsRow w.heap.size 3 1 v zs.length (zs.map (Value.int .i64)) ∧ Below w.heap.size w w' := by
  have h1 : 1 ≤ n := by omega
  obtain ⟨i0, hi, hz0, hz1, hz2⟩ := info_parts infoI
  refine callsIn_of_wp_marks Try.func75 rfl hA ?_ hro
  simp only [Try.ntmps75, List.size_toArray, List.length_cons, List.length_nil, Nat.reduceAdd, Nat.reduceSub, Array.replicate_succ, Array.replicate_zero, List.push_toArray, List.append_toArray, List.nil_append, List.cons_append]
  gi_wp2
  have hB0 : Below w.heap.size w (w.alloc (.cells #[.slice none 0 0] 25)) := (Below.refl _ w).alloc (Nat.le_refl _) _
  have hbx : (w.alloc (.cells #[.slice none 0 0] 25)).heap[w.heap.size]? = some (.cells #[.slice none 0 0] 25 (0, 0)) := World.alloc_heap_new w _
  refine wpIn_rangeFunc_ownG hro h1 (gf := 70) (lb := #[.pointer (some ⟨Bs, 0, none⟩)]) rfl h7 (enters_of Try.func70 (by kernel_rfl) rfl)
    (values_stops Fe (n - 1) h7 hro (by omega) Bs w.heap.size sv zs hreach _ (by simp; omega) (by simp) ((hB0.cell (p := ⟨Bs, 0, none⟩) hBs).trans hc) (hI.below hB0)) belowK_t (belowK_b (by simp)) (Below.refl _ _) (fun _ => rfl)
    (fun pre W => ApAt w.heap.size w.heap.size pre W ∧ Below w.heap.size w W)
    (fun _ _ _ => False)
    (OwnFrom.and (Own.from (apAt_own _ _) _) (ownFrom_below (Nat.le_refl _) (by simp)))
    (fun _ _ _ _ _ hs _ _ => hs)
    ⟨⟨_, hbx, World.ownsRow_nil _ _ _ _⟩, hB0⟩
    (fun x => { tmps := #[.slice none 0 0, .func (.func 70) #[] #[.pointer (some ⟨Bs, 0, none⟩)], .pointer (some ⟨w.heap.size, 0, none⟩), undef, .slice none 0 0, .int .i64 x, .func (.func 70) #[] #[.pointer (some ⟨Bs, 0, none⟩)], .int .i64 x, undef, undef, undef, undef, undef], defers := [] }) ?assign ?body ?done ?stop
  case assign =>
    intro l x W K hK
    gi_wp2
    exact hK
  case body =>
    rintro l pre x W ⟨⟨v, hv, hown⟩, hB⟩ hlen
    obtain ⟨hc1, hf1⟩ := boxCell hv
    have hbz : w.heap.size < W.heap.size := (Array.getElem?_eq_some_iff.1 hv).1
    gi_wp2_with (first
      | (gi_at_builtin; refine wpListIn_append_own _ rfl _ _ 25 rfl w.heap.size 3 i0 (.int .i64 0) 1 8 Try.underlying25 hi hz0 hz1 hz2 rfl (by decide) _ _ _ rfl (hown.alloc _) ⟨W.heap.size, 0, none⟩ 1 1 [.int .i64 x] rfl rfl (cell_one_new _ _ _) (by simp [Value.oneCell']) (by unfold maxLen; omega) (by omega) (by simp; omega) ?_; intro v' w3 hown' hg3q hnil3
         have hg3 : (W.alloc (.cells #[.int .i64 x] 3)).grownBy w3 v.ownBlock := hg3q
         clear hg3q hnil3
         have hv3 : w3.heap[w.heap.size]? = some (.cells #[v] 25 (0, 0)) := (hg3.block w.heap.size (by simp; omega) (by
           rcases rowNe hown hv (fun cur e => by cases e) with e | e
           · rw [e]; simp
           · exact fun e' => e e'.symm)).trans ((Below.heap_alloc _ _ w.heap.size hbz).trans hv)
         obtain ⟨hc3, hf3⟩ := boxCell hv3
         obtain ⟨g', cap', cur', rfl, hbase', hgb', hr1, hr2, hr3, hr4⟩ : ∃ g' cap' cur', v' = .slice (some ⟨g', 0, none⟩) (pre.length + 1) cap' ∧ w.heap.size ≤ g' ∧ w3.heap[g']? = some (.cells cur' 3 (0, 0)) ∧ pre.length + 1 ≤ cap' ∧ cap' ≤ maxLen ∧ cur'.size = cap' * 1 ∧ cur'.toList.take ((pre.length + 1) * 1) = pre.map (Value.int .i64) ++ [.int .i64 x] := by
           rcases hown'.2 with ⟨_, h0⟩ | h'
           · exact absurd h0 (by omega)
           · exact h')
      | gi_in)
    have hne : v.ownBlock ≠ some w.heap.size := by
      rcases rowNe hown hv (fun cur e => by cases e) with e | e
      · rw [e]; simp
      · exact e
    have hW3 : W.grownBy w3 v.ownBlock := ⟨hg3.os, hg3.tape, hg3.output, by have := hg3.size; simp at this; omega, fun k hk hkr => (hg3.block k (by simp; omega) hkr).trans (Below.heap_alloc _ _ k hk)⟩
    have hg4 := grownBy_setCell' w3 w.heap.size (.slice (some ⟨g', 0, none⟩) (pre.length + 1) cap')
    have hBW : Below w.heap.size W w3 := (Below.refl w.heap.size W).grown hW3 (Nat.le_of_lt hbz) (fun k e => (hown.lt k e).1)
    have hB4 : Below w.heap.size w3 (w3.setCell ⟨w.heap.size, 0, none⟩ (.slice (some ⟨g', 0, none⟩) (pre.length + 1) cap')) := (Below.refl w.heap.size w3).setCell (p := ⟨w.heap.size, 0, none⟩) (Nat.le_refl _) _
    refine ⟨⟨by have := hW3.size; have := hg4.size; omega, fun k o hk ho hoc => ?_⟩, hBW.trans hB4, ⟨_, setCell_box hv3, ?_⟩, hB.trans (hBW.trans hB4)⟩
    · have hkl : k < W.heap.size := (Array.getElem?_eq_some_iff.1 ho).1
      have h3 : w3.heap[k]? = some o := (hW3.block k hkl (fun e => by
        rcases hown.2 with ⟨rfl, _⟩ | ⟨g, cap, cur, rfl, _, hgc, _⟩
        · cases e
        · cases e
          rw [hgc] at ho; cases ho; simp [Obj.isCells] at hoc)).trans ho
      exact (hg4.block k (Array.getElem?_eq_some_iff.1 h3).1 (fun e => by cases e; rw [World.size_alloc] at hk; omega)).trans h3
    · have := hown'.kept hg4 (rowNe hown' hv3 (fun cur e => by cases e))
      simpa using this
  case done =>
    rintro D ys W hD rfl ⟨⟨v, hv, hown⟩, hB⟩ hK
    obtain ⟨hc1, hf1⟩ := boxCell hv
    gi_wp2
    refine ⟨by simp, .inl ⟨_, _, rfl, run_takeDeferred hK, ?_⟩⟩
    exact ⟨_, results_tmp rfl _ _ _, v, rfl, rowAbides hown (grownBy_putObj' _ _ _) (fun r e => by cases e; exact ⟨_, hK, rfl⟩), hB.trans (belowK_b (w := w) (Nat.le_refl _) W D _ _ (by simp at hD; omega) hK rfl rfl)⟩
  case stop =>
    rintro D c pre W _ _ h _
    exact h.elim

open Go.GX

theorem intsIn_of {w : World} {s : Sl} {l : List Int} (h : R w s l) : IntsIn w.heap.size w s.v l := by
  obtain ⟨h1, h2, h3⟩ := h
  cases ha : s.a with
  | none =>
    have : l = [] := by
      cases l with
      | nil => rfl
      | cons x r => obtain ⟨a, _, e, _⟩ := h3 0 x rfl; rw [ha] at e; cases e
    subst this
    refine .inl ⟨s.cap, ?_, rfl⟩
    simp only [Sl.v, ha, h1]; rfl
  | some a =>
    have hcell : ∀ j, j < l.length → w.cell? (a.add j) = some (.int .i64 (l[j]?.getD 0)) := fun j hj => by
      obtain ⟨a', cs, e, _, hr, hcs⟩ := h3 j l[j] (List.getElem?_eq_getElem hj)
      rw [ha] at e; cases e
      have := hcs 0 (.int .i64 l[j]) (by rw [hr.1]; rfl)
      simp only [List.getElem?_eq_getElem hj, Option.getD_some]
      simpa [Rep.sz] using this
    refine .inr ⟨a, s.cap, ?_, fun h0 => ?_, hcell⟩
    · simp only [Sl.v, ha, h1]
    · have := hcell 0 h0
      exact cell_lt this

/-- slices.AppendSeq(nil, slices.Values(s)): the box of slices.Values holds s. -/
theorem appendSeq_ok {w : World} {b : Nat} {s : Sl} {l : List Int} (hc : w.cell? ⟨b, 0, none⟩ = some s.v) (h : R w s l) (hl : l.length ≤ 1048576) :
    Calls Try.prog F.slices_AppendSeq_sl_int_int #[.slice none 0 0, .func (.func F.slices_Values_sl_int_int_1) #[] #[.pointer (some ⟨b, 0, none⟩)]] w (Ret [.at .sl] fun (r : Sl) w' => Ext w w' ∧ OwnL w' w.heap.size T.t_int r l) := by
  refine (callsIn_wide.1 (appendSeq_in Fence.wide 3 trivial trivial rfl (Nat.le_refl _) b s.v l (by omega) w (cell_lt hc) hc (intsIn_of h))).mono ?_
  rintro e w' ⟨v, rfl, ho, hB⟩
  have hv : ∃ r : Sl, v = r.v ∧ r.len = l.length := by
    rcases ho.2 with ⟨rfl, h0⟩ | ⟨g, cap, cur, rfl, _⟩
    · exact ⟨⟨none, 0, 0⟩, rfl, h0.symm⟩
    · exact ⟨⟨some ⟨g, 0, none⟩, l.length, cap⟩, rfl, rfl⟩
  obtain ⟨r, rfl, hrl⟩ := hv
  refine show Ext w w' ∧ OwnL w' w.heap.size T.t_int r l from ⟨hB, hrl, ?_⟩
  rw [flatI]
  unfold GX.Own
  rw [hrl]
  exact ho

theorem collect_ok {w : World} {b : Nat} {s : Sl} {l : List Int} (hc : w.cell? ⟨b, 0, none⟩ = some s.v) (h : R w s l) (hl : l.length ≤ 1048576) :
    Calls Try.prog F.slices_Collect_int #[.func (.func F.slices_Values_sl_int_int_1) #[] #[.pointer (some ⟨b, 0, none⟩)]] w (Ret [.at .sl] fun (r : Sl) w' => Ext w w' ∧ OwnL w' w.heap.size T.t_int r l) := by
  refine C_slices_Collect_int ?_
  unfold V_slices_Collect_int
  refine call (appendSeq_ok hc h hl) ?_
  intro r w1 hr
  exact hr

/-- slices.Sorted(slices.Values(s)). -/
theorem sorted_ok {w : World} {b : Nat} {s : Sl} {l : List Int} (hc : w.cell? ⟨b, 0, none⟩ = some s.v) (h : R w s l) (hl : l.length ≤ 1048576) :
    Calls Try.prog F.slices_Sorted_int #[.func (.func F.slices_Values_sl_int_int_1) #[] #[.pointer (some ⟨b, 0, none⟩)]] w (Ret [.at .sl] fun (r : Sl) w' => Ext w w' ∧ OwnL w' w.heap.size T.t_int r (sortI l)) := by
  refine C_slices_Sorted_int ?_
  unfold V_slices_Sorted_int
  refine call (collect_ok hc h hl) ?_
  rintro r w1 ⟨hE, hO⟩
  refine call (sort_ok hO hl) ?_
  rintro w2 ⟨hO2, hS⟩
  exact ⟨hS.ext0 hE (fun k e => (hO.2.lt k e).1), hO2⟩

theorem values_ok {w : World} {s : Sl} {Q : Value → World → Prop}
    (h : ∀ w', Ext w w' → w'.cell? ⟨w.heap.size, 0, none⟩ = some s.v → Q (.func (.func F.slices_Values_sl_int_int_1) #[] #[.pointer (some ⟨w.heap.size, 0, none⟩)]) w') :
    Calls Try.prog F.slices_Values_sl_int_int #[s.v] w (Ret [.at .val] Q) := by
  refine C_slices_Values_sl_int_int ?_
  unfold V_slices_Values_sl_int_int
  have hE := ext_push w (.cells #[s.v] T.t_sl_int)
  exact h _ hE (boxCell (t := T.t_sl_int) (by simp)).1

end Go.Proofs.Ytndebacmnpghkaa
end

section
/- When a network is a network: both sides' tests, and the laws' tests of nodes and ports. -/
namespace Go.Proofs.Ytndebacmnpghkaa
open Go.GX Go.RowKit
set_option maxRecDepth 100000

abbrev Ends := List (List (Int × Int))

/-- The far end of port i of node v. -/
def port (E : Ends) (v i : Nat) : Option (Int × Int) := (E[v]?).bind (·[i]?)

theorem port_get {E : Ends} {v i : Nat} (hv : v < E.length) (hi : i < E[v].length) : port E v i = some E[v][i] := by
  simp [port, hv, hi]

theorem port_some {E : Ends} {v i : Nat} {e : Int × Int} (h : port E v i = some e) : ∃ (hv : v < E.length) (hi : i < E[v].length), E[v][i] = e := by
  unfold port at h
  by_cases hv : v < E.length
  · by_cases hi : i < E[v].length
    · simp [hv, hi] at h; exact ⟨hv, hi, h⟩
    · simp [hv, hi] at h
  · simp [hv] at h

/-- The far end leads back. -/
def Back (E : Ends) (v i : Nat) (e : Int × Int) : Prop := ∃ a b : Nat, e = ((a : Int), (b : Int)) ∧ port E a b = some ((v : Int), (i : Int))

def RowOk (E : Ends) (v : Nat) : Prop := (∀ r, E[v]? = some r → r.length ≤ 6) ∧ ∀ i e, port E v i = some e → Back E v i e

structure Good (n : Net) : Prop where
  size : 1 ≤ n.ends.length ∧ n.ends.length ≤ 40
  ids : IdsOk n.ids n.ends.length
  inputs : n.inputs.length = n.ends.length ∧ AllIn n.inputs 0 9
  rows : ∀ v < n.ends.length, RowOk n.ends v

theorem Good.deg {n : Net} (h : Good n) {v : Nat} (hv : v < n.ends.length) : n.ends[v].length ≤ 6 := (h.rows v hv).1 _ (by simp [hv])
theorem Good.back {n : Net} (h : Good n) {v i : Nat} (hv : v < n.ends.length) (hi : i < n.ends[v].length) : Back n.ends v i n.ends[v][i] := (h.rows v hv).2 i _ (port_get hv hi)

theorem hasNode_ok {w : World} {a b c : Sl} {n : Net} (h : RNet w a b c n) (v : Int) :
    Calls Try.prog F.i_Network_hasNode #[.agg #[a.v, b.v, c.v], .int .i64 v] w (Ret [.at .bool] fun (x : Bool) w' => x = decide (0 ≤ v ∧ v < n.ends.length) ∧ Ext w w') := by
  refine C_i_Network_hasNode ?_
  unfold V_i_Network_hasNode
  refine NEW_intro fun p w1 hp hs hE1 hb1 => LD_bs0 hb1 ?_
  have hl := h.1.le
  rw [h.1.len, wrap_of (by omega) (by omega)]
  refine call (within_ok _ _ _ _) ?_
  rintro x _ ⟨rfl, rfl⟩
  refine ⟨?_, hE1⟩
  rw [Bool.eq_iff_iff]
  simp [inR]
  omega

/-- Port numbers as whole numbers. -/
def portZ (E : Ends) (v i : Int) : Option (Int × Int) := if 0 ≤ v ∧ 0 ≤ i then port E v.toNat i.toNat else none

theorem hasPort_ok {w : World} {a b c : Sl} {n : Net} (h : RNet w a b c n) (v i : Int) :
    Calls Try.prog F.i_Network_hasPort #[.agg #[a.v, b.v, c.v], .int .i64 v, .int .i64 i] w (Ret [.at .bool] fun (x : Bool) w' => x = (portZ n.ends v i).isSome ∧ Ext w w') := by
  refine C_i_Network_hasPort ?_
  unfold V_i_Network_hasPort
  refine NEW_intro fun p w1 hp hs hE1 hb1 => LD_box3 hb1 ?_
  refine call (hasNode_ok (h.ext hE1) v) ?_
  rintro x w2 ⟨rfl, hE2⟩
  have hE := hE1.trans hE2
  refine cond_dec (fun ⟨h0, h1⟩ => ?_) (fun hn => ⟨?_, hE⟩)
  · refine LD_bs0 (hb1.ext hE2) ?_
    obtain ⟨m, rfl⟩ := Int.eq_ofNat_of_zero_le h0
    have hm : m < n.ends.length := by omega
    refine (h.ext hE).1.ixL hm fun q s hR hc => LD_sl hc ?_
    have hl := hR.le
    rw [hR.len, wrap_of (by omega) (by omega)]
    refine call (within_ok _ _ _ _) ?_
    rintro x _ ⟨rfl, rfl⟩
    refine ⟨?_, hE⟩
    unfold portZ
    by_cases hi : 0 ≤ i
    · obtain ⟨k, rfl⟩ := Int.eq_ofNat_of_zero_le hi
      by_cases hk : k < n.ends[m].length
      · simp [inR, port, hm, hk]; omega
      · simp [inR, port, hm, hk]; omega
    · simp [inR, hi]
  · unfold portZ
    by_cases h0 : 0 ≤ v ∧ 0 ≤ i
    · have : ¬ v.toNat < n.ends.length := by omega
      simp [h0, port, this]
    · simp [h0]

theorem end_struct : intStruct Try.prog T.t_i_End 2 = true := by kernel_rfl

theorem portZ_nat (E : Ends) (v i : Nat) : portZ E v i = port E v i := by simp [portZ]

theorem portZ_some {E : Ends} {v i : Int} {e : Int × Int} (h : portZ E v i = some e) : ∃ a b : Nat, v = a ∧ i = b ∧ port E a b = some e := by
  unfold portZ at h
  split at h
  · exact ⟨v.toNat, i.toNat, by omega, by omega, h⟩
  · cases h

theorem back_iff {E : Ends} {v i : Nat} {x y : Int} : Back E v i (x, y) ↔ portZ E x y = some ((v : Int), (i : Int)) := by
  constructor
  · rintro ⟨a, b, he, hp⟩
    cases he
    rw [portZ_nat]; exact hp
  · intro h
    obtain ⟨a, b, rfl, rfl, hp⟩ := portZ_some h
    exact ⟨a, b, rfl, hp⟩

def InvR (E : Ends) (w w' : World) (v : Nat) : Prop := Ext w w' ∧ ∀ u < v, RowOk E u
def InvP (E : Ends) (w w' : World) (v i : Nat) : Prop := InvR E w w' v ∧ ∀ j < i, ∀ e, port E v j = some e → Back E v j e

theorem isNetwork_k1 {w w0 : World} {a b c : Sl} {n : Net} (h : RNet w a b c n) {p : Addr} {t : TypeId} (hb : Box w p t [a.v, b.v, c.v]) (hE0 : Ext w0 w) :
    V_i_IsNetwork_k1 (fun x w' => (x = true ↔ ∀ v < n.ends.length, RowOk n.ends v) ∧ Ext w0 w') p w := by
  unfold V_i_IsNetwork_k1
  refine LD_bs0 hb ?_
  rw [h.1.len]
  have hN := h.1.le
  refine ⟨IN n.ends.length fun v w' => InvR n.ends w w' v, MN n.ends.length, IN_zero ⟨Ext.refl _, fun u hu => absurd hu (by omega)⟩, ?_⟩
  rintro _ w1 ⟨v, rfl, hv, hE1, hI⟩
  intros
  refine cond_dec (fun hlt => ?_) (fun hge => ⟨?_, hE0.trans hE1⟩)
  · have hv' : v < n.ends.length := by omega
    refine (h.ext hE1).1.ixL hv' fun q s hR hc => LD_sl hc ?_
    rw [hR.len]
    refine cond_dec (fun hgt => ⟨?_, hE0.trans hE1⟩) (fun hle => ?_)
    · simp only [Bool.false_eq_true, false_iff]
      intro hall
      have := (hall v hv').1 n.ends[v] (by simp [hv'])
      omega
    · refine ⟨IN n.ends[v].length fun i w' => Ext w1 w' ∧ InvP n.ends w w' v i, MN n.ends[v].length, IN_zero ⟨Ext.refl _, ⟨hE1, hI⟩, fun u hu => absurd hu (by omega)⟩, ?_⟩
      rintro _ w2 ⟨i, rfl, hi, hE12, ⟨hE2, _⟩, hJ⟩
      intros
      refine cond_dec (fun hlt2 => ?_) (fun hge2 => ?_)
      · have hi' : i < n.ends[v].length := by omega
        refine (hR.ext hE12).ixE hi' fun q h1 h2 hc0 hc1 => LD_int2 hc0 hc1 ?_
        refine NEW_ST (one2 _ _) rfl fun p6 w3 hp6 hE3 hb6 => ?_
        have hE03 := hE2.trans hE3
        refine LD_box3 (hb.ext hE03) ?_
        refine LD_bi0 hb6 (LD_bi1 hb6 ?_)
        refine QCALL_bool _ (fun w' hw' => hasPort_ok (h.ext (hE03.trans hw')) _ _) ?_
        have hbk : Back n.ends v i n.ends[v][i] ↔ portZ n.ends n.ends[v][i].1 n.ends[v][i].2 = some ((v : Int), (i : Int)) := back_iff (x := n.ends[v][i].1) (y := n.ends[v][i].2)
        have hfail : ¬ Back n.ends v i n.ends[v][i] → ¬ ∀ v < n.ends.length, RowOk n.ends v := fun hn hall => hn ((hall v hv').2 i _ (port_get hv' hi'))
        refine cond_not (fun hf w4 hE4 => ⟨?_, hE0.trans (hE03.trans hE4)⟩) (fun ht => ?_)
        · simp only [Bool.false_eq_true, false_iff]
          refine hfail fun hB => ?_
          rw [hbk.1 hB] at hf; cases hf
        · obtain ⟨e', he'⟩ := Option.isSome_iff_exists.1 ht
          obtain ⟨x, y, hx, hy, hp'⟩ := portZ_some he'
          obtain ⟨hx', hy', hxy⟩ := port_some hp'
          rw [hx, hy] at hbk
          rw [hx, hy] at hb6
          refine LD_bs0 (hb.ext hE03) (LD_bi0 hb6 ?_)
          refine (h.ext hE03).1.ixL hx' fun q s2 hR2 hc => LD_sl hc ?_
          refine LD_bi1 hb6 ?_
          refine hR2.ixE hy' fun q _ _ hc0 hc1 => LD_int2 hc0 hc1 ?_
          refine AEQ_neq2 end_struct ?_
          intro w4 hE4
          have hE04 := hE03.trans hE4
          rw [portZ_nat, port_get hx' hy'] at hbk
          have hbk' : Back n.ends v i n.ends[v][i] ↔ (n.ends[x][y].1, n.ends[x][y].2) = ((v : Int), (i : Int)) := hbk.trans (by simp [Prod.ext_iff])
          refine cond_not (fun hf => ⟨?_, hE0.trans hE04⟩) (fun ht => ?_)
          · simp only [Bool.false_eq_true, false_iff]
            exact hfail fun hB => (decide_eq_false_iff_not.1 hf) (hbk'.1 hB)
          · refine IN_next (by have := hR.le; omega) hi' ⟨hE12.trans (hE3.trans hE4), ⟨hE04, hI⟩, fun j hj e he => ?_⟩
            rcases Nat.lt_or_eq_of_le (Nat.le_of_lt_succ hj) with h5 | h5
            · exact hJ j h5 e he
            · subst h5
              rw [port_get hv' hi'] at he
              cases he
              exact hbk'.2 (decide_eq_true_iff.1 ht)
      · refine IN_next hN hv' ⟨hE2, fun u hu => ?_⟩
        rcases Nat.lt_or_eq_of_le (Nat.le_of_lt_succ hu) with h5 | h5
        · exact hI u h5
        · subst h5
          refine ⟨fun r hr => ?_, fun j e he => ?_⟩
          · simp [hv'] at hr; subst hr; omega
          · obtain ⟨_, hj, _⟩ := port_some he
            exact hJ j (by omega) e he
  · simp only [true_iff]
    exact fun u hu => hI u (by omega)

theorem isNetwork_ok {w : World} {a b c : Sl} {n : Net} (h : RNet w a b c n) (hl : n.ids.length ≤ 1048576) :
    Calls Try.prog F.i_IsNetwork #[.agg #[a.v, b.v, c.v]] w (Ret [.at .bool] fun (x : Bool) w' => (x = true ↔ Good n) ∧ Ext w w') := by
  refine C_i_IsNetwork ?_
  unfold V_i_IsNetwork
  refine NEW_intro fun p w1 hp hs hE1 hb1 => LD_bs0 hb1 ?_
  have h1 := h.ext hE1
  rw [h1.1.len]
  refine call (within_ok _ _ _ _) ?_
  rintro x _ ⟨rfl, rfl⟩
  refine cond_not (fun hf => ⟨?_, hE1⟩) (fun ht => ?_)
  · simp only [Bool.false_eq_true, false_iff]
    intro hg
    exact inR_false hf (by have := hg.size; omega)
  have hsz := inR_true ht
  refine LD_bs1 hb1 (LD_bs0 hb1 ?_)
  rw [h1.1.len]
  refine call (idsOk_ok h1.2.1 hl _) ?_
  rintro x w2 ⟨hx2, hE2⟩
  have hE02 := hE1.trans hE2
  refine cond_not (fun hf => ⟨?_, hE02⟩) (fun ht => ?_)
  · simp only [Bool.false_eq_true, false_iff]
    intro hg
    rw [hx2.2 hg.ids] at hf; cases hf
  have hids := hx2.1 ht
  have h2 := h1.ext hE2
  have hb2 := hb1.ext hE2
  refine LD_bs2 hb2 (LD_bs0 hb2 ?_)
  rw [h2.1.len]
  refine call (inputsOk_ok h2.2.2 _) ?_
  rintro x w3 ⟨hx3, hE3⟩
  have hE03 := hE02.trans hE3
  refine cond_not (fun hf => ⟨?_, hE03⟩) (fun ht => ?_)
  · simp only [Bool.false_eq_true, false_iff]
    intro hg
    rw [hx3.2 hg.inputs] at hf; cases hf
  have hin := hx3.1 ht
  have := isNetwork_k1 (h2.ext hE3) (hb2.ext hE3) hE03
  have heq : (∀ v < n.ends.length, RowOk n.ends v) ↔ Good n := ⟨fun h => ⟨by omega, hids, hin, h⟩, fun h => h.rows⟩
  rw [heq] at this
  exact this

/-- Two answers of a test: the answer, and whether it was asked rightly. -/
def Ans2 (g p : Prop) (x ok : Bool) : Prop := (x = true ↔ g ∧ p) ∧ (ok = true ↔ g)

theorem Ans2.eq {g p : Prop} {x ok x' ok' : Bool} (h : Ans2 g p x ok) (h' : Ans2 g p x' ok') : x = x' ∧ ok = ok' :=
  ⟨Bool.eq_iff_iff.2 (h.1.trans h'.1.symm), Bool.eq_iff_iff.2 (h.2.trans h'.2.symm)⟩

theorem Ans2.no {g p : Prop} (h : ¬ g) : Ans2 g p false false := ⟨by simp [h], by simp [h]⟩
theorem Ans2.mk {g p : Prop} {x : Bool} (h : g) (hx : x = true ↔ p) : Ans2 g p x true := ⟨by simp [h, hx], by simp [h]⟩

end Go.Proofs.Ytndebacmnpghkaa
end

section
/- What a node's neighbours bear: both sides' walks over ports; the tests IsDefective and IsWeak. -/
namespace Go.Proofs.Ytndebacmnpghkaa
open Go.GX Go.RowKit
set_option maxRecDepth 100000

def rowOf (E : Ends) (v : Nat) : List (Int × Int) := E.getD v []
theorem rowOf_get {E : Ends} {v : Nat} (h : v < E.length) : rowOf E v = E[v] := by simp [rowOf, h]

/-- What lies at the far ends of a node's ports. -/
def nearOf (E : Ends) (l : List Int) (v : Nat) : List Int := (rowOf E v).map fun e => l.getD e.1.toNat 0
/-- The nodes at the far ends of a node's ports. -/
def adjOf (E : Ends) (v : Nat) : List Int := (rowOf E v).map (·.1)

theorem Good.far {n : Net} (hg : Good n) {v i : Nat} (hv : v < n.ends.length) (hi : i < n.ends[v].length) : ∃ x y : Nat, n.ends[v][i] = ((x : Int), (y : Int)) ∧ x < n.ends.length ∧ port n.ends x y = some ((v : Int), (i : Int)) := by
  obtain ⟨x, y, hxy, hb⟩ := hg.back hv hi
  obtain ⟨hx, _⟩ := port_some hb
  exact ⟨x, y, hxy, hx, hb⟩

theorem adj_len {n : Net} (_ : Good n) {v : Nat} (hv : v < n.ends.length) : (adjOf n.ends v).length = n.ends[v].length := by
  unfold adjOf; rw [rowOf_get hv]; simp

theorem near_adj (E : Ends) (l : List Int) (v : Nat) : nearOf E l v = (adjOf E v).map fun u => l.getD u.toNat 0 := by
  unfold nearOf adjOf; rw [List.map_map]; rfl

/-! ### Colours -/

structure ColoursOk (n : Net) (l : List Int) : Prop where
  good : Good n
  len : l.length = n.ends.length
  all : AllIn l 0 1000000000000

/-! ### IsDefective -/

/-! ### IsWeak -/

end Go.Proofs.Ytndebacmnpghkaa
end

section
/- Edges: both sides' lists of them, and searching in lists of numbers, ends and edges. -/
namespace Go.Proofs.Ytndebacmnpghkaa
open Go.GX Go.RowKit
set_option maxRecDepth 100000

abbrev Edge := Int × Int × Int × Int

/-- The port of an edge that bears it: the lesser of its two ends. -/
def isFirst (v i : Nat) (e : Int × Int) : Bool := decide ((v : Int) < e.1) || ((v : Int) == e.1 && decide ((i : Int) ≤ e.2))

def portE (E : Ends) (v i : Nat) : List Edge := match port E v i with
  | some e => if isFirst v i e then [((v : Int), (i : Int), e.1, e.2)] else []
  | none => []
def rowE (E : Ends) (v : Nat) : Nat → List Edge
  | 0 => []
  | i + 1 => rowE E v i ++ portE E v i
def edgesTo (E : Ends) : Nat → List Edge
  | 0 => []
  | v + 1 => edgesTo E v ++ rowE E v (rowOf E v).length
def edgesOf (E : Ends) : List Edge := edgesTo E E.length

/-! ### Searching -/

end Go.Proofs.Ytndebacmnpghkaa
end

section
/- Proper colourings: both sides' tests. -/
namespace Go.Proofs.Ytndebacmnpghkaa
open Go.GX Go.RowKit
set_option maxRecDepth 100000

/-- Two nodes with an edge between them, the lesser first, that bear the same. -/
def Clash (E : Ends) (l : List Int) : Prop := ∃ v u : Nat, v ≤ u ∧ v < E.length ∧ u < E.length ∧ (u : Int) ∈ adjOf E v ∧ l.getD v 0 = l.getD u 0

def Proper (n : Net) (l : List Int) : Prop := l.length = n.ends.length ∧ AllIn l 0 1000000000000 ∧ ¬ Clash n.ends l

end Go.Proofs.Ytndebacmnpghkaa
end

section
/- Matchings: both sides' tests, and the law IsMatching. -/
namespace Go.Proofs.Ytndebacmnpghkaa
open Go.GX Go.RowKit
set_option maxRecDepth 100000

/-- Node v and its mate agree. -/
def MAt (E : Ends) (m : List Int) (v : Nat) : Prop :=
  ∀ x, m[v]? = some x → x = -1 ∨ ∃ e, portZ E v x = some e ∧ e.1 ≠ v ∧ ∃ u : Nat, e.1 = u ∧ m[u]? = some e.2

def MatchOk (E : Ends) (m : List Int) : Prop := m.length = E.length ∧ ∀ v < m.length, MAt E m v

end Go.Proofs.Ytndebacmnpghkaa
end

section
/- Sets of nodes and matchings: both sides' tests of independence, covers, maximality; sizes of matchings. -/
namespace Go.Proofs.Ytndebacmnpghkaa
open Go.GX Go.RowKit
set_option maxRecDepth 100000

structure SetOk (n : Net) (l : List Int) : Prop where
  good : Good n
  rising : Rising l 0 (n.ends.length - 1)

theorem SetOk.node {n : Net} {l : List Int} (h : SetOk n l) : ∀ x ∈ l, ∃ u : Nat, x = u ∧ u < n.ends.length := by
  intro x hx
  have := h.rising.1 x hx
  exact ⟨x.toNat, by omega, by omega⟩

/-! ### Independent sets -/

/-- No neighbour of v lies in the set. -/
def Apart (E : Ends) (l : List Int) (v : Nat) : Prop := ∀ x ∈ adjOf E v, x ∉ l

/-! ### Covers -/

end Go.Proofs.Ytndebacmnpghkaa
end

section
/- Maximal matchings and maximal independent sets; sizes of matchings. -/
namespace Go.Proofs.Ytndebacmnpghkaa
open Go.GX Go.RowKit
set_option maxRecDepth 100000

/-! ### Matchings that are asked rightly, and their size -/

structure MatchAsked (n : Net) (m : List Int) : Prop where
  good : Good n
  is : MatchOk n.ends m

/-- An answer that is a number, and whether it was asked rightly. -/
def AnsI (g : Prop) (k : Int) (x : Int) (ok : Bool) : Prop := (ok = true ↔ g) ∧ (g → x = k) ∧ (¬ g → x = 0)

theorem AnsI.eq {g : Prop} {k x x' : Int} {ok ok' : Bool} (h : AnsI g k x ok) (h' : AnsI g k x' ok') : x = x' ∧ ok = ok' := by
  refine ⟨?_, Bool.eq_iff_iff.2 (h.1.trans h'.1.symm)⟩
  by_cases hg : g
  · rw [h.2.1 hg, h'.2.1 hg]
  · rw [h.2.2 hg, h'.2.2 hg]

theorem AnsI.no {g : Prop} {k : Int} (h : ¬ g) : AnsI g k 0 false := ⟨by simp [h], fun h1 => absurd h1 h, fun _ => rfl⟩
theorem AnsI.mk {g : Prop} {k x : Int} (h : g) (hx : x = k) : AnsI g k x true := ⟨by simp [h], fun _ => hx, fun h1 => absurd h h1⟩

/-! ### Maximal matchings -/

/-- An edge that could be added: two nodes, both free. -/
def FreeEdge (l : List Int) (q : Edge) : Prop := q.1 ≠ q.2.2.1 ∧ l.getD q.1.toNat 0 < 0 ∧ l.getD q.2.2.1.toNat 0 < 0
instance (l : List Int) (q : Edge) : Decidable (FreeEdge l q) := by unfold FreeEdge; exact inferInstance
def Maximal (n : Net) (l : List Int) : Prop := ∀ q ∈ edgesOf n.ends, ¬ FreeEdge l q

/-! ### Maximal independent sets -/

end Go.Proofs.Ytndebacmnpghkaa
end

section
/- Slices that may be written, whatever they hold: the marks that a law leaves in its arguments and answers. No program is named here. -/
namespace Go.GX
open Go.RowKit

/-- Each cell of the slice may be written. -/
def Wr (w : World) (s : Sl) (sz : Nat) : Prop := ∀ j, j < s.len * sz → ∃ a, s.a = some a ∧ (∃ old, w.cell? (a.add j) = some old) ∧ w.frozen? (a.add j) = false

/-- No cell goes, none is frozen. -/
def Shp (w w' : World) : Prop := (∀ a old, w.cell? a = some old → ∃ new, w'.cell? a = some new) ∧ ∀ a, w.frozen? a = false → (∃ old, w.cell? a = some old) → w'.frozen? a = false

theorem Shp.refl (w : World) : Shp w w := ⟨fun _ old h => ⟨old, h⟩, fun _ h _ => h⟩
theorem Shp.trans {a b c : World} (h : Shp a b) (k : Shp b c) : Shp a c :=
  ⟨fun p old hp => by obtain ⟨n, hn⟩ := h.1 p old hp; exact k.1 p n hn, fun p hf ⟨old, hp⟩ => k.2 p (h.2 p hf ⟨old, hp⟩) (h.1 p old hp)⟩
theorem Shp.setCell (w : World) (p : Addr) (v : Value) : Shp w (w.setCell p v) :=
  ⟨fun a old h => by
    by_cases hp : p = a
    · subst hp; exact ⟨v, World.cell?_setCell_same w p v h⟩
    · exact ⟨old, by rw [World.cell?_setCell_other w p a v hp]; exact h⟩, fun a h _ => by rw [World.frozen?_setCell]; exact h⟩
theorem Shp.ext {w w' : World} (h : Ext w w') : Shp w w' :=
  ⟨fun a old ho => ⟨old, h.cell ho⟩, fun a hf ⟨old, ho⟩ => by
    have hb : w'.heap[a.block]? = w.heap[a.block]? := h.same (cell_lt ho)
    unfold World.frozen? at hf ⊢
    rw [hb]; exact hf⟩

theorem Wr.shp {w w' : World} {s : Sl} {sz : Nat} (h : Wr w s sz) (hs : Shp w w') : Wr w' s sz := fun j hj => by
  obtain ⟨a, ha, ⟨old, hc⟩, hf⟩ := h j hj
  exact ⟨a, ha, hs.1 _ _ hc, hs.2 _ hf ⟨old, hc⟩⟩

theorem OwnL.wr {α : Type} [Flat α] {w : World} {base : Nat} {e : TypeId} {s : Sl} {l : List α} (h : OwnL w base e s l) : Wr w s (Rep.sz α) := fun j hj => by
  rcases h.2.2 with ⟨hv, h0⟩ | ⟨g, cap, cur, hv, hb, hg, hle, _, hsz, htake⟩
  · rw [h0] at hj; simp at hj
  · simp [Sl.v] at hv
    obtain ⟨ha, rfl⟩ := hv
    have hlen := h.2.length
    have hlt : j < (l.flatMap Flat.cells).length := by rw [hlen]; exact hj
    have hown : w.ownsRow base e (Rep.sz α) s.v s.len (l.flatMap Flat.cells) := h.2
    refine ⟨_, ha, ⟨_, World.ownsRow.cells hown (g := g) (by simp [Sl.v, ha, Value.ownBlock]) j _ (List.getElem?_eq_getElem hlt)⟩, ?_⟩
    simp [World.frozen?, add_block, hg]

/-- The block of a slice. -/
def blkOf (s : Sl) (b : Nat) : Prop := ∃ a, s.a = some a ∧ a.block = b

/-- One cell written. -/
theorem ST_wr1 {w : World} {s : Sl} {sz i : Nat} (h : Wr w s sz) {a : Addr} (ha : s.a = some a) {p : Addr} {k : Nat} (hp : p.add k = a.add i) (hi : i < s.len * sz) {v : Value} (h1 : v.oneCell' = true) {K : World → Prop}
    (hk : ∀ w', Shp w w' → Chg w w' (blkOf s) → w'.heap.size = w.heap.size → K w') : ST p k [v] w K := by
  obtain ⟨a', ha', hc, hf⟩ := h i hi
  rw [ha] at ha'; cases ha'
  refine ⟨h1, by rw [hp]; exact hc, by rw [hp]; exact hf, ?_⟩
  rw [hp]
  refine hk _ (Shp.setCell _ _ _) ⟨rfl, rfl, rfl, by rw [setCell_size]; exact Nat.le_refl _, fun b _ hD => ?_⟩ (setCell_size _ _ _)
  refine setCell_other _ _ _ fun he => hD ⟨a, ha, ?_⟩
  rw [he, add_block]

theorem IX_wr {w : World} {s : Sl} {sz i : Nat} (h : Wr w s sz) (hsz : 0 < sz) (hi : i < s.len) {K : Addr → Prop} (hk : ∀ a, s.a = some a → K (a.add (i * sz))) : IX s i sz K := by
  have hj : i * sz < s.len * sz := Nat.mul_lt_mul_of_pos_right hi hsz
  obtain ⟨a, ha, _⟩ := h _ hj
  exact ⟨a, ha, by omega, by omega, by simpa using hk a ha⟩

/-- Numbers in a row. -/
def marks (k : Int) (n : Nat) : List Int := (List.range n).map fun (i : Nat) => k + (i : Int)

theorem marks_length (k : Int) (n : Nat) : (marks k n).length = n := by simp [marks]
theorem marks_get (k : Int) (n i : Nat) (h : i < (marks k n).length) : (marks k n)[i] = k + i := by simp [marks]
theorem marks_I64 {k : Int} {n : Nat} (h0 : 0 ≤ k) (h1 : k + n ≤ 9223372036854775807) : ∀ x ∈ marks k n, I64 x := fun x hx => by
  simp [marks] at hx
  obtain ⟨i, hi, rfl⟩ := hx
  unfold I64; omega

theorem marks_step {k : Int} {l : List Int} {i : Nat} (hi : i < l.length) : (marks k i ++ l.drop i).set i (k + i) = marks k (i + 1) ++ l.drop (i + 1) := by
  have h1 : (marks k i).length = i := marks_length _ _
  rw [List.set_append_right _ _ (by omega), h1, Nat.sub_self, List.drop_eq_getElem_cons hi, List.set_cons_zero]
  simp [marks, List.range_succ]

theorem Chg.extR {w0 w w' : World} {lo hi : Nat} (h : Chg w w' (fun b => lo ≤ b ∧ b < hi)) (hE : Ext w0 w) (hl : w0.heap.size ≤ lo) : Ext w0 w' := h.ext0 hE fun k hk => by have := hk.1; omega
/-! ### Lists that are filled from the front -/

/-! ### Boxes and lists of the call's own, apart by their types -/

def oB (s : Sl) (b : Nat) : Prop := s.v.ownBlock = some b

theorem Box.notOwn {w : World} {p : Addr} {t : TypeId} {cs : List Value} {α : Type} [Flat α] {base : Nat} {e : TypeId} {s : Sl} {l : List α} (h : Box w p t cs) (hO : OwnL w base e s l) (hne : t ≠ e) : ¬ oB s p.block := fun he => by
  obtain ⟨c1, e1⟩ := hO.type he
  rw [h.2.2] at e1
  exact hne (Obj.cells.inj (Option.some.inj e1)).2.1

theorem OwnL.stepB {w w' : World} {p : Addr} {t : TypeId} {cs : List Value} {α : Type} [Flat α] {base : Nat} {e : TypeId} {s : Sl} {l : List α} (hO : OwnL w base e s l) (h : Box w p t cs) (hne : t ≠ e) (hs : Step w w' (some p.block)) : OwnL w' base e s l :=
  hO.keep fun k hk => hs.block k (hO.blk k hk).2 fun he => h.notOwn hO hne (by cases he; exact hk)

/-! ### Answers that hold only where something holds -/

structure AnsG {α : Type} (g : Prop) (x d y : α) (ok : Bool) : Prop where
  ok : ok = true ↔ g
  val : g → y = x
  non : ¬ g → y = d

theorem AnsG.yes {α : Type} {g : Prop} {x d : α} (h : g) : AnsG g x d x true := ⟨by simp [h], fun _ => rfl, fun hn => absurd h hn⟩
theorem AnsG.no {α : Type} {g : Prop} {x d : α} (h : ¬ g) : AnsG g x d d false := ⟨by simp [h], fun hg => absurd hg h, fun _ => rfl⟩
theorem AnsG.eq {α : Type} {g : Prop} {x d y y' : α} {ok ok' : Bool} (h : AnsG g x d y ok) (h' : AnsG g x d y' ok') : y = y' ∧ ok = ok' := by
  constructor
  · by_cases hg : g
    · rw [h.val hg, h'.val hg]
    · rw [h.non hg, h'.non hg]
  · rw [Bool.eq_iff_iff, h.ok, h'.ok]

end Go.GX
end

section
/- The laws' marks: what they write into copies and answers, and what they look for again. -/
namespace Go.Proofs.Ytndebacmnpghkaa
open Go.GX Go.RowKit
set_option maxRecDepth 100000

theorem markIntS_ok {w : World} {base : Nat} {s : Sl} {l : List Int} (h : OwnL w base T.t_int s l) (k : Int) (h0 : 0 ≤ k) (h1 : k ≤ 1152921504606846976) (hl : l.length ≤ 1048576) :
    Calls Try.prog F.l_markIntS #[s.v, .int .i64 k] w (Ret [.at (.int .i64)] fun (r : Int) w' => r = k + l.length ∧ OwnL w' base T.t_int s (marks k l.length) ∧ Step w w' s.v.ownBlock) := by
  refine C_l_markIntS ?_
  unfold V_l_markIntS
  rw [h.1]
  refine ⟨IN2 l.length fun i r w' => r = k + i ∧ OwnL w' base T.t_int s (marks k i ++ l.drop i) ∧ Step w w' s.v.ownBlock, MN2 l.length, IN2_zero ⟨by simp, by simpa [marks] using h, Step.refl _ _⟩, ?_⟩
  rintro _ _ w1 ⟨i, rfl, hi, rfl, hO, hs⟩
  intros
  refine cond_dec (fun hlt => ?_) (fun hge => ?_)
  · have hi' : i < l.length := by omega
    have hml : (marks k i ++ l.drop i).length = l.length := by rw [List.length_append, marks_length, List.length_drop]; omega
    refine IX_own hO (by rw [hml]; exact hi') rfl fun p hp => ?_
    refine ST_own hO (by rw [hml]; exact hi') hp (k + i) rfl fun w2 hO2 hs2 => ?_
    rw [marks_step hi'] at hO2
    rw [wrap_of (n := k + i + 1) (by omega) (by omega)]
    exact IN2_next (by omega) hi' ⟨by omega, hO2, hs.trans hs2⟩
  · have : i = l.length := by omega
    subst this
    exact ⟨rfl, by simpa using hO, hs⟩

theorem heldIntS_ok {w : World} {s : Sl} {n : Nat} (k : Int) (h : R w s (marks k n)) (h0 : 0 ≤ k) (h1 : k ≤ 1152921504606846976) (hl : n ≤ 1048576) :
    Calls Try.prog F.l_heldIntS #[s.v, .int .i64 k] w (Ret [.at (.int .i64)] fun (r : Int) w' => r = k + n ∧ w = w') := by
  refine C_l_heldIntS ?_
  unfold V_l_heldIntS
  rw [h.len, marks_length]
  refine ⟨IN2 n fun i r w' => r = k + i ∧ w = w', MN2 n, IN2_zero ⟨by simp, rfl⟩, ?_⟩
  rintro _ _ w1 ⟨i, rfl, hi, rfl, rfl⟩
  intros
  refine cond_dec (fun hlt => ?_) (fun hge => ?_)
  · have hi' : i < (marks k n).length := by rw [marks_length]; omega
    refine h.ixI hi' fun p _ hc => LD_int hc ?_
    rw [marks_get]
    refine cond_ne (fun hne => absurd rfl hne) (fun _ => ?_)
    rw [wrap_of (n := k + i + 1) (by omega) (by omega)]
    exact IN2_next (by omega) (by omega) ⟨by omega, rfl⟩
  · have : i = n := by omega
    subst this
    exact ⟨rfl, rfl⟩

theorem markIntS_wr {w : World} {s : Sl} (h : Wr w s 1) (k : Int) (h0 : 0 ≤ k) (h1 : k ≤ 1152921504606846976) (hl : s.len ≤ 1048576) :
    Calls Try.prog F.l_markIntS #[s.v, .int .i64 k] w (Ret [.at (.int .i64)] fun (r : Int) w' => r = k + s.len ∧ Shp w w' ∧ Chg w w' (blkOf s)) := by
  refine C_l_markIntS ?_
  unfold V_l_markIntS
  refine ⟨IN2 s.len fun i r w' => r = k + i ∧ Shp w w' ∧ Chg w w' (blkOf s), MN2 s.len, IN2_zero ⟨by simp, Shp.refl _, Chg.refl _ _⟩, ?_⟩
  rintro _ _ w1 ⟨i, rfl, hi, rfl, hS, hC⟩
  intros
  refine cond_dec (fun hlt => ?_) (fun hge => ?_)
  · have hi' : i < s.len := by omega
    refine IX_wr (h.shp hS) (by decide) hi' fun a ha => ?_
    refine ST_wr1 (i := i) (h.shp hS) ha (by rw [add_add]; simp) (by omega) rfl fun w2 hS2 hC2 _ => ?_
    rw [wrap_of (n := k + i + 1) (by omega) (by omega)]
    exact IN2_next (by omega) hi' ⟨by omega, hS.trans hS2, hC.trans hC2⟩
  · have : i = s.len := by omega
    subst this
    exact ⟨rfl, hS, hC⟩

/-- A slice of numbers that may be marked: its blocks lie between two bounds. -/
structure MInt (w : World) (s : Sl) (lo hi : Nat) : Prop where
  wr : Wr w s 1
  len : s.len ≤ 1048576
  blk : ∀ b, blkOf s b → lo ≤ b ∧ b < hi

theorem MInt.shp {w w' : World} {s : Sl} {lo hi : Nat} (h : MInt w s lo hi) (hs : Shp w w') : MInt w' s lo hi := ⟨h.wr.shp hs, h.len, h.blk⟩
theorem MInt.ext {w w' : World} {s : Sl} {lo hi : Nat} (h : MInt w s lo hi) (hE : Ext w w') : MInt w' s lo hi := h.shp (Shp.ext hE)

theorem blkOf_own {α : Type} [Flat α] {w : World} {base : Nat} {e : TypeId} {s : Sl} {l : List α} (h : OwnL w base e s l) {b : Nat} (hb : blkOf s b) : s.v.ownBlock = some b := by
  obtain ⟨a, ha, rfl⟩ := hb
  rcases h.2.2 with ⟨hv, _⟩ | ⟨g, cap, cur, hv, _⟩
  · simp [Sl.v] at hv; rw [ha] at hv; cases hv.1
  · simp [Sl.v] at hv
    rw [ha] at hv
    simp [Sl.v, ha, Value.ownBlock]

theorem mint_of {w : World} {base : Nat} {s : Sl} {l : List Int} (h : OwnL w base T.t_int s l) (hl : l.length ≤ 1048576) : MInt w s base w.heap.size :=
  ⟨h.wr, by rw [h.1]; exact hl, fun b hb => h.blk b (blkOf_own h hb)⟩

/-- A slice of slices of numbers that may be marked. -/
structure MIntSS (w : World) (s : Sl) (lo hi : Nat) : Prop where
  ex : ∃ ss : List Sl, OwnL w lo T.t_sl_int s ss ∧ ss.length ≤ 1048576 ∧ ∀ r ∈ ss, MInt w r lo hi ∧ ∀ b, blkOf r b → s.v.ownBlock ≠ some b

/-- A network that may be marked. -/
structure MNet (w : World) (x y z : Sl) (lo hi : Nat) : Prop where
  ends : ∃ ss : List Sl, OwnL w lo T.t_sl_i_End x ss ∧ ss.length ≤ 1048576 ∧ ∀ r ∈ ss, Wr w r 2 ∧ r.len ≤ 1048576 ∧ ∀ b, blkOf r b → (lo ≤ b ∧ b < hi) ∧ x.v.ownBlock ≠ some b
  ids : MInt w y lo hi
  inputs : MInt w z lo hi

theorem MNet.ext {w w' : World} {x y z : Sl} {lo hi : Nat} (h : MNet w x y z lo hi) (hE : Ext w w') : MNet w' x y z lo hi := by
  obtain ⟨⟨ss, h1, h2, h3⟩, h4, h5⟩ := h
  exact ⟨⟨ss, h1.ext hE, h2, fun r hr => ⟨(h3 r hr).1.shp (Shp.ext hE), (h3 r hr).2⟩⟩, h4.ext hE, h5.ext hE⟩

/-! ### Answers that are lists -/

/-- An answer of the call's own: its blocks lie from base on. -/
structure OutL (base : Nat) (w : World) (s : Sl) (l : List Int) : Prop where
  own : OwnL w base T.t_int s l
  i64 : ∀ x ∈ l, I64 x
  small : l.length ≤ 1048576

theorem OutL.rep {base : Nat} {w : World} {s : Sl} {l : List Int} (h : OutL base w s l) : R w s l := (h.own.rep h.i64).any
theorem OutL.ext {base : Nat} {w w' : World} {s : Sl} {l : List Int} (h : OutL base w s l) (hE : Ext w w') : OutL base w' s l := ⟨h.own.ext hE, h.i64, h.small⟩
theorem OutL.chgR {base lo hi : Nat} {w w' : World} {s : Sl} {l : List Int} (h : OutL base w s l) (hC : Chg w w' (fun b => lo ≤ b ∧ b < hi)) (hh : hi ≤ base) : OutL base w' s l :=
  ⟨h.own.chg hC fun b hb hD => by have := (h.own.blk b hb).1; have := hD.2; omega, h.i64, h.small⟩
theorem OutL.nil (base : Nat) (w : World) : OutL base w ⟨none, 0, 0⟩ [] := ⟨OwnL.nil _ _ _, by simp, by simp⟩
theorem OutL.low {base b : Nat} {w : World} {s : Sl} {l : List Int} (h : OutL base w s l) (hb : b ≤ base) : OutL b w s l := ⟨h.own.low hb, h.i64, h.small⟩

end Go.Proofs.Ytndebacmnpghkaa
end

section
/- Copying between slices, digits of numbers. No program is named here. -/
namespace Go.GX
open Go.RowKit

/-! ### Digits -/

theorem wrap_u64 {n : Int} (h0 : 0 ≤ n) (h1 : n < 18446744073709551616) : IntKind.u64.wrap n = n := by
  have e1 : (2 : Int) ^ 64 = 18446744073709551616 := rfl
  have hs : IntKind.u64.signed = false := rfl
  simp only [IntKind.wrap, IntKind.bits, hs, Bool.false_and, e1]
  rw [Int.emod_eq_of_lt h0 h1]; simp

theorem shr_nat (k : IntKind) (a j : Nat) (hj : j ≤ k.bits) : shrI k a j = ((a / 2 ^ j : Nat) : Int) := by
  unfold shrI
  rw [Int.toNat_natCast, Nat.min_eq_left hj, Int.fdiv_eq_ediv_of_nonneg _ (Int.le_of_lt (Int.pow_pos (by decide)))]
  simp

/-! ### Cutting -/

/-! ### copy -/

/-! ### clear, and the first part of a slice of the call's own -/

theorem OwnL.front {α : Type} [Flat α] {w : World} {base : Nat} {e : TypeId} {s : Sl} {l : List α} (h : OwnL w base e s l) {k : Nat} (hk : k ≤ l.length) : OwnL w base e ⟨s.a, k, s.cap⟩ (l.take k) := by
  have hlen : ∀ q : List α, (q.flatMap Flat.cells).length = q.length * Rep.sz α := by
    intro q
    induction q with
    | nil => simp
    | cons x r ih => rw [List.flatMap_cons, List.length_append, ih, Flat.size x, List.length_cons, Nat.succ_mul, Nat.add_comm]
  refine ⟨by simp; omega, ?_, ?_⟩
  · rw [hlen, List.length_take, Nat.min_eq_left hk]
  · rcases h.2.2 with ⟨hv, h0⟩ | ⟨g, cap, cur, hv, hb, hg, hle, hmx, hsz, htake⟩
    · simp [Sl.v] at hv
      have := h.1
      refine .inl ⟨?_, by simp only; omega⟩
      simp [Sl.v, hv.1]
      omega
    · have hv' := hv
      simp [Sl.v] at hv
      have hl := h.1
      refine .inr ⟨g, cap, cur, ?_, hb, hg, by simp only; omega, hmx, hsz, ?_⟩
      · simp [Sl.v, hv.1, hv.2]
      · have hk2 : ((l.take k).flatMap Flat.cells).length = k * Rep.sz α := by rw [hlen, List.length_take, Nat.min_eq_left hk]
        have e2 : (l.take k).flatMap Flat.cells = (l.flatMap Flat.cells).take (k * Rep.sz α) := by
          have e3 : l.flatMap Flat.cells = (l.take k).flatMap Flat.cells ++ (l.drop k).flatMap Flat.cells := by rw [← List.flatMap_append, List.take_append_drop]
          rw [e3, ← hk2, List.take_left]
        rw [e2, ← htake, List.take_take]
        have : k * Rep.sz α ≤ s.len * Rep.sz α := Nat.mul_le_mul_right _ (by omega)
        rw [Nat.min_eq_left this]

end Go.GX
end

section
/- Contracts of functions of the library: Mul, Repeat. -/
namespace Go.Proofs.Ytndebacmnpghkaa
open Go.GX Go.RowKit
set_option maxRecDepth 100000

theorem l1Own_ok {w : World} {s : Sl} {l : List Int} (h : R w s l) (hl : l.length ≤ 1048576) :
    Calls Try.prog F.s_l1Own #[s.v] w (Ret [.at .sl] fun (r : Sl) w' => Ext w w' ∧ OwnL w' w.heap.size T.t_int r l) := by
  refine C_s_l1Own ?_
  unfold V_s_l1Own
  refine RUN_lit0 (α := Int) slt_int fun r w1 hE1 hO1 => ?_
  refine RUN_append (α := Int) slt_int hO1 hE1.size (h.ext hE1) (by simp; omega) (by simp [maxLen]; omega) fun r' w2 hO2 hs => ?_
  exact ⟨hs.ext0 hE1 (fun k hk => (hO1.blk k hk).1), by simpa using hO2⟩

end Go.Proofs.Ytndebacmnpghkaa
end

section
/- Orders of nodes; sets that are kept in order; GreedyIndependent, both sides. -/
namespace Go.Proofs.Ytndebacmnpghkaa
open Go.GX Go.RowKit
set_option maxRecDepth 100000

structure PermOk (l : List Int) (k : Nat) : Prop where
  len : l.length = k
  all : AllIn l 0 (k - 1)
  nodup : l.Nodup

theorem PermOk.node {l : List Int} {k : Nat} (h : PermOk l k) : ∀ x ∈ l, ∃ u : Nat, x = u ∧ u < k := fun x hx => by
  have := h.all x hx
  exact ⟨x.toNat, by omega, by omega⟩

/-! ### Lists in order -/

/-! ### The greedy set -/

instance (E : Ends) (l : List Int) (v : Nat) : Decidable (Apart E l v) := by unfold Apart; exact inferInstance

/-- May a node join? -/
def joins (E : Ends) (S : List Int) (v : Int) : Prop := (adjOf E v.toNat).contains v = false ∧ Apart E S v.toNat
instance (E : Ends) (S : List Int) (v : Int) : Decidable (joins E S v) := by unfold joins; exact inferInstance
structure OrderAsked (n : Net) (l : List Int) : Prop where
  good : Good n
  perm : PermOk l n.ends.length

theorem sortI_I64 {l : List Int} (h : ∀ x ∈ l, I64 x) : ∀ x ∈ sortI l, I64 x := fun x hx => h x ((sortI_perm l).mem_iff.1 hx)
end Go.Proofs.Ytndebacmnpghkaa
end

section
/- Lists of lists of the call's own whose rows lie apart: rows that are written, that grow, that are added. No program is named here. -/
namespace Go.GX
open Go.RowKit

/-- The slice s of the call's own holds the rows ss, which read as the lists L and lie in blocks of their own. -/
structure RowsD {α : Type} [Flat α] (w : World) (base : Nat) (e e' : TypeId) (s : Sl) (L : List (List α)) (ss : List Sl) : Prop where
  own : OwnL w base e' s ss
  len : ss.length = L.length
  row : ∀ (i : Nat) (r : Sl) (l : List α), ss[i]? = some r → L[i]? = some l → OwnL w base e r l
  apart : ∀ (i j : Nat) (r q : Sl), ss[i]? = some r → ss[j]? = some q → i ≠ j → ∀ k, r.v.ownBlock = some k → q.v.ownBlock ≠ some k

section
variable {α : Type} [Flat α] {w w' : World} {base : Nat} {e e' : TypeId} {s : Sl} {L : List (List α)} {ss : List Sl}

theorem RowsD.own2 (h : RowsD w base e e' s L ss) : Own2 w base e e' s L := ⟨ss, h.own, h.len, h.row⟩
theorem RowsD.rep (h : RowsD w base e e' s L ss) (hok : ∀ l ∈ L, ∀ x ∈ l, Flat.ok x) : R w s L := h.own2.rep hok
theorem RowsD.nil (w : World) (base : Nat) (e e' : TypeId) : RowsD w base e e' ⟨none, 0, 0⟩ ([] : List (List α)) [] := ⟨OwnL.nil _ _ _, rfl, fun i r l h => by simp at h, fun i j r q h => by simp at h⟩
theorem RowsD.keep (h : RowsD w base e e' s L ss) (hk : ∀ k, base ≤ k → k < w.heap.size → w'.heap[k]? = w.heap[k]?) : RowsD w' base e e' s L ss :=
  ⟨h.own.keep fun k hb => hk k (h.own.blk k hb).1 (h.own.blk k hb).2, h.len, fun i r l hr hl => (h.row i r l hr hl).keep fun k hb => hk k ((h.row i r l hr hl).blk k hb).1 ((h.row i r l hr hl).blk k hb).2, h.apart⟩
theorem RowsD.ext (h : RowsD w base e e' s L ss) (hE : Ext w w') : RowsD w' base e e' s L ss := h.keep fun _ _ hk => hE.same hk
theorem RowsD.low (h : RowsD w base e e' s L ss) {b : Nat} (hb : b ≤ base) : RowsD w b e e' s L ss := ⟨h.own.low hb, h.len, fun i r l hr hl => (h.row i r l hr hl).low hb, h.apart⟩

theorem RowsD.at (h : RowsD w base e e' s L ss) {i : Nat} (hi : i < L.length) : ∃ r, ss[i]? = some r ∧ OwnL w base e r L[i] := by
  have h1 : i < ss.length := by rw [h.len]; exact hi
  exact ⟨ss[i], by simp [h1], h.row i ss[i] L[i] (by simp [h1]) (by simp [hi])⟩

/-- Looking up a row. -/
theorem RowsD.ix (h : RowsD w base e e' s L ss) {i : Nat} (hi : i < L.length) {K : Addr → Prop} (hk : ∀ p r, ss[i]? = some r → OwnL w base e r L[i] → w.cell? p = some r.v → s.v.ownBlock = some p.block → K p) : IX s i 1 K := by
  obtain ⟨r, hr, hO⟩ := h.at hi
  obtain ⟨a, cs, ha, _, hrep, hc⟩ := (h.own.rep fun _ _ => trivial).2.2 i r hr
  have hcs : cs = [r.v] := hrep
  subst hcs
  have hlen := h.own.1
  have hl2 := h.len
  refine ⟨a, ha, by omega, by omega, hk _ r hr hO (hc 0 _ rfl) ?_⟩
  have hsv : s.v = .slice (some a) s.len s.cap := by simp [Sl.v, ha]
  rw [hsv, add_block]
  rcases h.own.2.2 with ⟨hv, h0⟩ | ⟨g, cap, cur, hv, _⟩
  · omega
  · rw [hsv] at hv
    obtain ⟨h1, _⟩ := Value.slice.inj hv
    cases h1
    rfl

theorem RowsD.block_ne (h : RowsD w base e e' s L ss) (hne : e ≠ e') {i : Nat} {r : Sl} (hr : ss[i]? = some r) {k : Nat} (hk : r.v.ownBlock = some k) : s.v.ownBlock ≠ some k := fun he => by
  have hi : i < L.length := by rw [← h.len]; exact (List.getElem?_eq_some_iff.1 hr).1
  obtain ⟨c1, e1⟩ := (h.row i r L[i] hr (by simp [hi])).type hk
  obtain ⟨c2, e2⟩ := h.own.type he
  rw [e1] at e2
  exact hne (Obj.cells.inj (Option.some.inj e2)).2.1

/-- A row that is written in place. -/
theorem RowsD.chg (h : RowsD w base e e' s L ss) (hne : e ≠ e') {i : Nat} {r : Sl} (hr : ss[i]? = some r) {l' : List α} (hO : OwnL w' base e r l') (hs : Step w w' r.v.ownBlock) : RowsD w' base e e' s (L.set i l') ss := by
  have hi : i < L.length := by rw [← h.len]; exact (List.getElem?_eq_some_iff.1 hr).1
  refine ⟨h.own.keep fun k hk => hs.block k (h.own.blk k hk).2 fun he => h.block_ne hne hr he.symm hk, by simp [h.len], fun j q l hq hl => ?_, h.apart⟩
  by_cases hji : j = i
  · subst hji
    rw [List.getElem?_set_self hi] at hl
    rw [hr] at hq
    cases hl; cases hq
    exact hO
  · rw [List.getElem?_set_ne (Ne.symm hji)] at hl
    have hq' := h.row j q l hq hl
    exact hq'.keep fun k hk => hs.block k (hq'.blk k hk).2 fun he => h.apart i j r q hr hq (Ne.symm hji) k he.symm hk

/-- A row that is replaced: what it became lies in its block or in a new one. -/
theorem RowsD.put (h : RowsD w base e e' s L ss) (hne : e ≠ e') {i : Nat} (hi : i < L.length) {r r' : Sl} (hr : ss[i]? = some r) {w1 : World} {l' : List α} (hO : OwnL w1 base e r' l') (hs : Step w w1 r.v.ownBlock) (hn : NewOr w r r') {p : Addr} (hp : Plc s i 1 p) {K : World → Prop}
    (hk : ∀ w2, RowsD w2 base e e' s (L.set i l') (ss.set i r') → Step w1 w2 s.v.ownBlock → K w2) : ST p 0 [r'.v] w1 K := by
  have hi' : i < ss.length := by rw [h.len]; exact hi
  have hown : OwnL w1 base e' s ss := h.own.keep fun k hk => hs.block k (h.own.blk k hk).2 fun he => h.block_ne hne hr he.symm hk
  have hlt : ∀ (j : Nat) (q : Sl), ss[j]? = some q → ∀ k, q.v.ownBlock = some k → k < w.heap.size := fun j q hq k hk => by
    have hj : j < L.length := by rw [← h.len]; exact (List.getElem?_eq_some_iff.1 hq).1
    exact ((h.row j q L[j] hq (by simp [hj])).blk k hk).2
  have hap : ∀ (j : Nat) (q : Sl), ss[j]? = some q → j ≠ i → ∀ k, r'.v.ownBlock = some k → q.v.ownBlock ≠ some k := fun j q hq hji k hk hqk => by
    rcases hn with hn | hn
    · rw [hn] at hk
      exact h.apart i j r q hr hq (Ne.symm hji) k hk hqk
    · have := hn k hk
      have := hlt j q hq k hqk
      omega
  refine ST_own hown hi' (p := p) hp r' rfl fun w2 hO2 hs2 => hk w2 ⟨hO2, by simp [h.len], fun j q l hq hl => ?_, fun j k q q' hq hq' hjk => ?_⟩ hs2
  · have hst : ∀ {q : Sl} {l : List α}, OwnL w1 base e q l → OwnL w2 base e q l := fun hq => hq.step hown hne hs2
    by_cases hji : j = i
    · subst hji
      rw [List.getElem?_set_self hi] at hl
      rw [List.getElem?_set_self hi'] at hq
      cases hl; cases hq
      exact hst hO
    · rw [List.getElem?_set_ne (Ne.symm hji)] at hl hq
      have hq' := h.row j q l hq hl
      exact hst (hq'.keep fun k hk => hs.block k (hq'.blk k hk).2 fun he => h.apart i j r q hr hq (Ne.symm hji) k he.symm hk)
  · by_cases hji : j = i
    · subst hji
      rw [List.getElem?_set_self hi'] at hq
      rw [List.getElem?_set_ne hjk] at hq'
      cases hq
      exact hap k q' hq' (Ne.symm hjk)
    · rw [List.getElem?_set_ne (Ne.symm hji)] at hq
      by_cases hki : k = i
      · subst hki
        rw [List.getElem?_set_self hi'] at hq'
        cases hq'
        exact fun b hb hb' => hap j q hq hji b hb' hb
      · rw [List.getElem?_set_ne (Ne.symm hki)] at hq'
        exact h.apart j k q q' hq hq' hjk

end

end Go.GX
end

section
/- What the laws do with matrices: copy, compare, measure. Turned from our texts on a network's ends. -/
namespace Go.Proofs.Ytndebacmnpghkaa
open Go.GX Go.RowKit
set_option maxRecDepth 100000

/-- A matrix of bounded size. -/
def SmallM (l : List (List Int)) : Prop := l.length ≤ 1048576 ∧ ∀ r ∈ l, r.length ≤ 1048576

theorem slt_rows : SlT Try.prog T.t_sl_sl_int T.t_sl_int 1 24 (.slice none 0 0) := ⟨by kernel_rfl, by kernel_rfl, rfl, by decide⟩

theorem toIntSS_own {w : World} {a : Sl} {l : List (List Int)} (h : R w a l) (hb : l.length ≤ 1048576) (hbb : ∀ r ∈ l, r.length ≤ 1048576) :
    Calls Try.prog F.l_toIntSS #[a.v] w (Ret [.at .sl] fun (s : Sl) w' => Ext w w' ∧ Own2 w' w.heap.size T.t_int T.t_sl_int s l) := by
  refine C_l_toIntSS ?_
  unfold V_l_toIntSS
  rw [h.len]
  refine RUN_make (α := Sl) slt_rows (d := ⟨none, 0, 0⟩) rfl (by omega) (by unfold maxLen; omega) fun s w1 hE1 hO1 => ?_
  refine ⟨IN l.length fun i w' => Ext w w' ∧ ∃ ss : List Sl, ss.length = l.length ∧ OwnL w' w.heap.size T.t_sl_int s ss ∧ ∀ (k : Nat) (q : Sl) (m : List Int), k < i → ss[k]? = some q → l[k]? = some m → OwnL w' w.heap.size T.t_int q m, MN l.length,
    IN_zero ⟨hE1, List.replicate l.length ⟨none, 0, 0⟩, by simp, hO1, fun k _ _ h3 => by omega⟩, ?_⟩
  rintro x w2 ⟨i, rfl, hi, hE, ss, hss, hO, hR⟩
  intros
  refine cond_dec (fun hlt => ?_) (fun hge => ?_)
  · have hlt' : i < l.length := by omega
    refine (h.ext hE).ixL hlt' fun p s' hs' hc => LD_sl hc ?_
    have hz := hE.size_le
    refine call (toIntS_ok hs'.any (hbb _ (List.getElem_mem _))) ?_
    rintro s3 w3 ⟨hE3, hO3⟩
    have hO' := hO.ext hE3
    refine IX_own hO' (by omega) rfl fun p hp => ?_
    refine ST_own hO' (by omega) hp s3 rfl fun w4 hO4 hs => ?_
    refine IN_next (by omega) hlt' ⟨hs.ext0 (hE.trans hE3) (fun k hk => (hO'.blk k hk).1), ss.set i s3, by simp [hss], hO4, fun k q m h1 h2 h3 => ?_⟩
    by_cases hk : k = i
    · subst hk
      rw [List.getElem?_set_self (by omega)] at h2
      rw [List.getElem?_eq_getElem hlt'] at h3
      cases h2
      cases h3
      exact (hO3.low hz).step hO' (by decide) hs
    · rw [List.getElem?_set_ne (Ne.symm hk)] at h2
      exact ((hR k q m (by omega) h2 h3).ext hE3).step hO' (by decide) hs
  · have : i = l.length := by omega
    subst this
    refine ⟨hE, ss, hO, hss, fun k q m h2 h3 => hR k q m (List.getElem?_eq_some_iff.1 h3).1 h2 h3⟩

theorem flat_okII {w : World} {s : Sl} {l : List (List Int)} (h : R w s l) : ∀ r ∈ l, ∀ x ∈ r, Flat.ok x := fun r hr x hx => by
  obtain ⟨i, hi, rfl⟩ := List.mem_iff_getElem.1 hr
  obtain ⟨_, _, _, _, ⟨s', _, h1⟩, _⟩ := h.2.2 i l[i] (by simp [hi])
  exact flat_ok h1 x hx

theorem szIntSS_ok {w : World} {a : Sl} {l : List (List Int)} (h : R w a l) (left : Int) (h0 : 0 ≤ left) (h1 : left ≤ 1048576) :
    Calls Try.prog F.l_szIntSS #[a.v, .int .i64 left] w (Ret [.at (.int .i64)] fun (x : Int) w' => (0 ≤ x → x ≤ left ∧ l.length ≤ left ∧ ∀ r ∈ l, r.length ≤ left) ∧ w = w') := by
  refine C_l_szIntSS ?_
  unfold V_l_szIntSS
  have := h.le
  rw [h.len, wrap_of (by omega) (by omega)]
  refine cond_dec (fun _ => ⟨by omega, rfl⟩) (fun hle => ?_)
  refine ⟨fun y x w' => w = w' ∧ 0 ≤ y ∧ y ≤ left ∧ ∃ i : Nat, x = i ∧ i ≤ l.length ∧ ∀ r ∈ l.take i, r.length ≤ left, fun _ x _ => l.length - x.toNat, ⟨rfl, by omega, by omega, 0, rfl, by omega, by simp⟩, ?_⟩
  rintro y x _ ⟨rfl, hy0, hy, i, rfl, hi, hr⟩
  intros
  refine cond_dec (fun hlt => ?_) (fun hge => ⟨fun _ => ⟨hy, by omega, ?_⟩, rfl⟩)
  · have hlt' : i < l.length := by omega
    refine h.ixL hlt' fun p s' hs' hc => LD_sl hc ?_
    refine call (szIntS_ok hs'.any y hy0 (by omega)) ?_
    rintro x _ ⟨hx, rfl⟩
    refine cond_dec (fun _ => ⟨by omega, rfl⟩) (fun hn => ?_)
    have hx' := hx (by omega)
    rw [wrap_of (by omega) (by omega)]
    refine ⟨⟨rfl, by omega, by omega, i + 1, by omega, hlt', fun r hr' => ?_⟩, by simp only []; omega⟩
    rw [List.take_succ_eq_append_getElem hlt'] at hr'
    rcases List.mem_append.1 hr' with h3 | h3
    · exact hr r h3
    · rw [List.mem_singleton.1 h3]; omega
  · have : i = l.length := by omega
    subst this
    simpa using hr

theorem eqIntSS_ok {w : World} {a b : Sl} {l m : List (List Int)} (ha : R w a l) (hb : R w b m) :
    Calls Try.prog F.l_eqIntSS #[a.v, b.v] w (Ret [.at .bool] fun (x : Bool) w' => x = decide (l = m) ∧ Ext w w') := by
  refine C_l_eqIntSS ?_
  unfold V_l_eqIntSS
  rw [ha.len, hb.len]
  refine cond_ne (fun hne => ⟨?_, Ext.refl _⟩) (fun he => ?_)
  · rw [decide_eq_false]; intro h; subst h; exact hne rfl
  · have hl : l.length = m.length := by omega
    refine ⟨IN l.length fun i w' => Ext w w' ∧ l.take i = m.take i, MN l.length, IN_zero ⟨Ext.refl _, by simp⟩, ?_⟩
    rintro x w1 ⟨i, rfl, hi, hE, ht⟩
    intros
    refine cond_dec (fun hlt => ?_) (fun hge => ⟨?_, hE⟩)
    · have h1 : i < l.length := by omega
      have h2 : i < m.length := by omega
      refine (ha.ext hE).ixL h1 fun p s1 hs1 hc => LD_sl hc ?_
      refine (hb.ext hE).ixL h2 fun p s2 hs2 hc => LD_sl hc ?_
      refine QCALL_bool _ (fun w' hw' => eqIntS_ok (hs1.any.ext hw') (hs2.any.ext hw')) ?_
      intro w2 hE2
      refine cond_not (fun hf => ⟨?_, hE.trans hE2⟩) (fun htr => ?_)
      · rw [decide_eq_false]; intro h; subst h; simp at hf
      · have heq : l[i] = m[i] := of_decide_eq_true htr
        exact IN_next ha.le h1 ⟨hE.trans hE2, by rw [List.take_succ_eq_append_getElem h1, List.take_succ_eq_append_getElem h2, ht, heq]⟩
    · have h3 : i = l.length := by omega
      subst h3
      rw [decide_eq_true]
      have h4 : m.take l.length = m := List.take_of_length_le (by omega)
      rw [h4, List.take_length] at ht
      exact ht

/-! ### Marks in matrices -/

/-- How many numbers lie in the first rows. -/
def pre (L : List (List Int)) (i : Nat) : Nat := ((L.take i).map List.length).sum
/-- A matrix of the call's own: its rows lie apart from each other. -/
structure OutM (base : Nat) (w : World) (s : Sl) (L : List (List Int)) : Prop where
  ex : ∃ ss : List Sl, RowsD w base T.t_int T.t_sl_int s L ss
  i64 : ∀ r ∈ L, ∀ x ∈ r, I64 x
  rows : L.length ≤ 1048576
  small : ∀ r ∈ L, r.length ≤ 1048576

theorem OutM.own2 {base : Nat} {w : World} {s : Sl} {L : List (List Int)} (h : OutM base w s L) : Own2 w base T.t_int T.t_sl_int s L := by
  obtain ⟨ss, h1, h2, h3, _⟩ := h.ex
  exact ⟨ss, h1, h2, h3⟩
theorem OutM.rep {base : Nat} {w : World} {s : Sl} {L : List (List Int)} (h : OutM base w s L) : R w s L := h.own2.rep h.i64
theorem OutM.keep {base : Nat} {w w' : World} {s : Sl} {L : List (List Int)} (h : OutM base w s L) (hk : ∀ k, base ≤ k → k < w.heap.size → w'.heap[k]? = w.heap[k]?) : OutM base w' s L := by
  obtain ⟨ss, h1, h2, h3, h4⟩ := h.ex
  exact ⟨⟨ss, h1.keep fun k hb => hk k (h1.blk k hb).1 (h1.blk k hb).2, h2, fun i r l hr hl => (h3 i r l hr hl).keep fun k hb => hk k ((h3 i r l hr hl).blk k hb).1 ((h3 i r l hr hl).blk k hb).2, h4⟩, h.i64, h.rows, h.small⟩
theorem OutM.ext {base : Nat} {w w' : World} {s : Sl} {L : List (List Int)} (h : OutM base w s L) (hE : Ext w w') : OutM base w' s L := h.keep fun _ _ hk => hE.same hk
theorem OutM.chgR {base lo hi : Nat} {w w' : World} {s : Sl} {L : List (List Int)} (h : OutM base w s L) (hC : Chg w w' (fun b => lo ≤ b ∧ b < hi)) (hh : hi ≤ base) : OutM base w' s L :=
  h.keep fun k hk hlt => hC.block k hlt fun hD => by have := hD.2; omega
theorem OutM.nil (base : Nat) (w : World) : OutM base w ⟨none, 0, 0⟩ [] := ⟨⟨[], OwnL.nil _ _ _, rfl, fun i r l h => by simp at h, fun i j r q h => by simp at h⟩, by simp, by simp, by simp⟩
theorem OutM.low {base b : Nat} {w : World} {s : Sl} {L : List (List Int)} (h : OutM base w s L) (hb : b ≤ base) : OutM b w s L := by
  obtain ⟨ss, h1, h2, h3, h4⟩ := h.ex
  exact ⟨⟨ss, h1.low hb, h2, fun i r l hr hl => (h3 i r l hr hl).low hb, h4⟩, h.i64, h.rows, h.small⟩

/-- The blocks of a matrix's rows. -/
def RB (ss : List Sl) (b : Nat) : Prop := ∃ r ∈ ss, r.v.ownBlock = some b

/-! ### Two matrices that lie apart -/

/-- The blocks of a matrix. -/
def MB (s : Sl) (ss : List Sl) (b : Nat) : Prop := s.v.ownBlock = some b ∨ RB ss b

theorem _root_.Go.GX.RowsD.blk {w : World} {base : Nat} {s : Sl} {L : List (List Int)} {ss : List Sl} (h : RowsD w base T.t_int T.t_sl_int s L ss) {b : Nat} (hb : MB s ss b) : base ≤ b ∧ b < w.heap.size := by
  rcases hb with hb | ⟨r, hr, hb⟩
  · exact h.own.blk b hb
  · obtain ⟨i, hi, rfl⟩ := List.mem_iff_getElem.1 hr
    have hl := h.len
    exact (h.row i ss[i] (L[i]'(by omega)) (by simp [hi]) (by simp)).blk b hb

theorem _root_.Go.GX.RowsD.keepB {w w' : World} {base : Nat} {s : Sl} {L : List (List Int)} {ss : List Sl} (h : RowsD w base T.t_int T.t_sl_int s L ss) (hk : ∀ b, MB s ss b → w'.heap[b]? = w.heap[b]?) : RowsD w' base T.t_int T.t_sl_int s L ss :=
  ⟨h.own.keep fun b hb => hk b (.inl hb), h.len, fun i r l hr hl => (h.row i r l hr hl).keep fun b hb => hk b (.inr ⟨r, List.mem_of_getElem? hr, hb⟩), h.apart⟩

structure Out2M (base : Nat) (w : World) (s : Sl) (L : List (List Int)) (s' : Sl) (L' : List (List Int)) : Prop where
  ex : ∃ ss ss' : List Sl, RowsD w base T.t_int T.t_sl_int s L ss ∧ RowsD w base T.t_int T.t_sl_int s' L' ss' ∧ ∀ b, MB s ss b → ¬ MB s' ss' b
  i64 : ∀ r ∈ L, ∀ x ∈ r, I64 x
  rows : L.length ≤ 1048576
  small : ∀ r ∈ L, r.length ≤ 1048576
  i64' : ∀ r ∈ L', ∀ x ∈ r, I64 x
  rows' : L'.length ≤ 1048576
  small' : ∀ r ∈ L', r.length ≤ 1048576

theorem Out2M.keep {base : Nat} {w w' : World} {s s' : Sl} {L L' : List (List Int)} (h : Out2M base w s L s' L') (hk : ∀ k, base ≤ k → k < w.heap.size → w'.heap[k]? = w.heap[k]?) : Out2M base w' s L s' L' := by
  obtain ⟨ss, ss', h1, h2, h3⟩ := h.ex
  exact ⟨⟨ss, ss', h1.keepB fun b hb => hk b (h1.blk hb).1 (h1.blk hb).2, h2.keepB fun b hb => hk b (h2.blk hb).1 (h2.blk hb).2, h3⟩, h.i64, h.rows, h.small, h.i64', h.rows', h.small'⟩
theorem Out2M.ext {base : Nat} {w w' : World} {s s' : Sl} {L L' : List (List Int)} (h : Out2M base w s L s' L') (hE : Ext w w') : Out2M base w' s L s' L' := h.keep fun _ _ hk => hE.same hk
theorem Out2M.chgR {base lo hi : Nat} {w w' : World} {s s' : Sl} {L L' : List (List Int)} (h : Out2M base w s L s' L') (hC : Chg w w' (fun b => lo ≤ b ∧ b < hi)) (hh : hi ≤ base) : Out2M base w' s L s' L' :=
  h.keep fun k hk hlt => hC.block k hlt fun hD => by have := hD.2; omega
theorem Out2M.nil (base : Nat) (w : World) : Out2M base w ⟨none, 0, 0⟩ [] ⟨none, 0, 0⟩ [] :=
  ⟨⟨[], [], RowsD.nil _ _ _ _, RowsD.nil _ _ _ _, fun b hb => (by
    rcases hb with hb | ⟨r, hr, _⟩
    · cases hb
    · cases hr)⟩, by simp, by simp, by simp, by simp, by simp, by simp⟩
theorem Out2M.low {base b : Nat} {w : World} {s s' : Sl} {L L' : List (List Int)} (h : Out2M base w s L s' L') (hb : b ≤ base) : Out2M b w s L s' L' := by
  obtain ⟨ss, ss', h1, h2, h3⟩ := h.ex
  exact ⟨⟨ss, ss', ⟨h1.own.low hb, h1.len, fun i r l hr hl => (h1.row i r l hr hl).low hb, h1.apart⟩, ⟨h2.own.low hb, h2.len, fun i r l hr hl => (h2.row i r l hr hl).low hb, h2.apart⟩, h3⟩, h.i64, h.rows, h.small, h.i64', h.rows', h.small'⟩
theorem Out2M.rep {base : Nat} {w : World} {s s' : Sl} {L L' : List (List Int)} (h : Out2M base w s L s' L') : R w s L := by
  obtain ⟨ss, ss', h1, _, _⟩ := h.ex
  exact h1.rep h.i64
theorem mintss_of {w : World} {base : Nat} {s : Sl} {L : List (List Int)} (h : Own2 w base T.t_int T.t_sl_int s L) (hl : L.length ≤ 1048576) (hll : ∀ r ∈ L, r.length ≤ 1048576) : MIntSS w s base w.heap.size := by
  obtain ⟨ss, h1, h2, h3⟩ := h
  refine ⟨ss, h1, by omega, fun r hr => ?_⟩
  obtain ⟨i, hi, rfl⟩ := List.mem_iff_getElem.1 hr
  have hiL : i < L.length := by omega
  have hO := h3 i ss[i] L[i] (by simp [hi]) (by simp [hiL])
  refine ⟨mint_of hO (hll _ (List.getElem_mem hiL)), fun b hb he => ?_⟩
  obtain ⟨c1, e1⟩ := hO.type (blkOf_own hO hb)
  obtain ⟨c2, e2⟩ := h1.type he
  rw [e1] at e2
  exact absurd (Obj.cells.inj (Option.some.inj e2)).2.1 (by decide)

theorem MIntSS.chg {w w' : World} {s : Sl} {lo hi : Nat} (h : MIntSS w s lo hi) (hS : Shp w w') {l2 h2 : Nat} (hC : Chg w w' (fun b => l2 ≤ b ∧ b < h2)) (hlo : h2 ≤ lo) : MIntSS w' s lo hi := by
  obtain ⟨ss, h1, h3, h4⟩ := h.ex
  exact ⟨ss, h1.chg hC fun b hb hD => by have := (h1.blk b hb).1; have := hD.2; omega, h3, fun r hr => ⟨(h4 r hr).1.shp hS, (h4 r hr).2⟩⟩
theorem MNet.chg {w w' : World} {x y z : Sl} {lo hi : Nat} (h : MNet w x y z lo hi) (hS : Shp w w') {l2 h2 : Nat} (hC : Chg w w' (fun b => l2 ≤ b ∧ b < h2)) (hlo : h2 ≤ lo) : MNet w' x y z lo hi := by
  obtain ⟨⟨ss, h1, h3, h4⟩, h5, h6⟩ := h
  exact ⟨⟨ss, h1.chg hC fun b hb hD => by have := (h1.blk b hb).1; have := hD.2; omega, h3, fun r hr => ⟨(h4 r hr).1.shp hS, (h4 r hr).2⟩⟩, h5.shp hS, h6.shp hS⟩

theorem MIntSS.ext {w w' : World} {s : Sl} {lo hi : Nat} (h : MIntSS w s lo hi) (hE : Ext w w') : MIntSS w' s lo hi := by
  obtain ⟨ss, h1, h3, h4⟩ := h.ex
  exact ⟨ss, h1.ext hE, h3, fun r hr => ⟨(h4 r hr).1.ext hE, (h4 r hr).2⟩⟩

theorem markIntSS_ok {w : World} {s : Sl} {lo hi : Nat} (h : MIntSS w s lo hi) (k : Int) (h0 : 0 ≤ k) (h1 : k ≤ 1125899906842624000) :
    Calls Try.prog F.l_markIntSS #[s.v, .int .i64 k] w (Ret [.at (.int .i64)] fun (r : Int) w' => 0 ≤ r ∧ r ≤ k + 1099511627776 ∧ Shp w w' ∧ Chg w w' (fun b => lo ≤ b ∧ b < hi)) := by
  obtain ⟨ss, hO, hl, hr⟩ := h.ex
  refine C_l_markIntSS ?_
  unfold V_l_markIntSS
  rw [hO.1]
  refine ⟨IN2 ss.length fun i r w' => 0 ≤ r ∧ r ≤ k + 1048576 * i ∧ Shp w w' ∧ Chg w w' (fun b => (lo ≤ b ∧ b < hi) ∧ s.v.ownBlock ≠ some b), MN2 ss.length, IN2_zero ⟨by omega, by omega, Shp.refl _, Chg.refl _ _⟩, ?_⟩
  rintro x _ w1 ⟨i, rfl, hi', hx0, hx1, hS, hC⟩
  intros
  refine cond_dec (fun hlt => ?_) (fun hge => ?_)
  · have hi2 : i < ss.length := by omega
    have hO1 : OwnL w1 lo T.t_sl_int s ss := hO.chg hC fun b hb hD => hD.2 hb
    refine (hO1.rep fun _ _ => trivial).ix (n := 1) rfl (by omega) (by omega) fun p cs hrep hc => ?_
    simp only [Int.toNat_natCast] at hrep
    have hcs : cs = [ss[i].v] := hrep
    subst hcs
    refine LD_sl (hc 0 _ rfl) ?_
    obtain ⟨hm, hb⟩ := hr _ (List.getElem_mem hi2)
    have hml := hm.len
    refine call (markIntS_wr (hm.wr.shp hS) x hx0 (by omega) hm.len) ?_
    rintro r w2 ⟨rfl, hS2, hC2⟩
    exact IN2_next (by omega) hi2 ⟨by omega, by omega, hS.trans hS2, hC.trans (hC2.mono fun b hb' => ⟨hm.blk b hb', hb b hb'⟩)⟩
  · have : i = ss.length := by omega
    subst this
    exact ⟨hx0, by omega, hS, hC.mono fun b hb => hb.1⟩

end Go.Proofs.Ytndebacmnpghkaa
end

section
/- Configurations: lists of labels in order, both sides. -/
namespace Go.Proofs.Ytndebacmnpghkaa
open Go.GX Go.RowKit
set_option maxRecDepth 100000

/-! ### Lists in the dictionary's order -/

def cmpL : List Int → List Int → Int
  | [], [] => 0
  | [], _ :: _ => -1
  | _ :: _, [] => 1
  | x :: a, y :: b => if x < y then -1 else if y < x then 1 else cmpL a b

theorem cmpL_zero : ∀ {a b : List Int}, cmpL a b = 0 ↔ a = b
  | [], [] => by simp [cmpL]
  | [], _ :: _ => by simp [cmpL]
  | _ :: _, [] => by simp [cmpL]
  | x :: a, y :: b => by
    rw [cmpL, List.cons.injEq, ← cmpL_zero (a := a) (b := b)]
    by_cases h1 : x < y
    · rw [if_pos h1]
      constructor
      · intro h; omega
      · intro h; omega
    · by_cases h2 : y < x
      · rw [if_neg h1, if_pos h2]
        constructor
        · intro h; omega
        · intro h; omega
      · rw [if_neg h1, if_neg h2]
        constructor
        · intro h; exact ⟨by omega, h⟩
        · intro h; exact h.2

theorem cmpL_trans : ∀ {a b c : List Int}, cmpL a b < 0 → cmpL b c < 0 → cmpL a c < 0
  | [], [], _, h, _ => by simp [cmpL] at h
  | [], _ :: _, [], _, h => by simp [cmpL] at h
  | [], _ :: _, _ :: _, _, _ => by simp [cmpL]
  | _ :: _, [], _, h, _ => by simp [cmpL] at h
  | _ :: _, _ :: _, [], _, h => by simp [cmpL] at h
  | x :: a, y :: b, z :: c, h, h' => by
    rw [cmpL] at h h' ⊢
    by_cases h1 : x < y
    · by_cases h2 : y < z
      · rw [if_pos (by omega)]; omega
      · rw [if_neg h2] at h'
        by_cases h3 : z < y
        · rw [if_pos h3] at h'; omega
        · rw [if_pos (by omega)]; omega
    · rw [if_neg h1] at h
      by_cases h4 : y < x
      · rw [if_pos h4] at h; omega
      · rw [if_neg h4] at h
        by_cases h2 : y < z
        · rw [if_pos (by omega)]; omega
        · rw [if_neg h2] at h'
          by_cases h3 : z < y
          · rw [if_pos h3] at h'; omega
          · rw [if_neg h3] at h'
            rw [if_neg (by omega), if_neg (by omega)]
            exact cmpL_trans h h'

/-- What is asked of a list of configurations. -/
structure ConfOk (L : List (List Int)) (size labels : Int) : Prop where
  row : ∀ i (h : i < L.length), (L[i].length : Int) = size ∧ L[i].Pairwise (· ≤ ·) ∧ AllIn L[i] 0 (labels - 1)
  rise : ∀ i (h : i + 1 < L.length), cmpL L[i] L[i + 1] < 0

theorem ConfOk.lt {L : List (List Int)} {size labels : Int} (h : ConfOk L size labels) : ∀ j i (_ : i < j) (hj : j < L.length), cmpL (L[i]'(by omega)) L[j] < 0 := by
  intro j
  induction j with
  | zero => intro i hi; omega
  | succ j ih =>
    intro i hi hj
    have h1 := h.rise j hj
    rcases Nat.lt_or_eq_of_le (Nat.le_of_lt_succ hi) with h2 | h2
    · exact cmpL_trans (ih i h2 (by omega)) h1
    · subst h2; exact h1

/-- Pairwise in order, told by neighbours. -/
theorem sorted_next : ∀ {l : List Int}, (∀ k (h : k + 1 < l.length), l[k] ≤ l[k + 1]) ↔ l.Pairwise (· ≤ ·)
  | [] => by simp
  | [x] => by simp
  | x :: y :: l => by
    have ih := sorted_next (l := y :: l)
    rw [List.pairwise_cons, ← ih]
    constructor
    · intro h
      have ht : ∀ k (h : k + 1 < (y :: l).length), (y :: l)[k] ≤ (y :: l)[k + 1] := fun k hk => h (k + 1) (by simp at hk ⊢; omega)
      refine ⟨fun z hz => ?_, ht⟩
      have hxy : x ≤ y := h 0 (by simp)
      have hp := List.pairwise_cons.1 (ih.1 ht)
      rcases List.mem_cons.1 hz with rfl | hz
      · exact hxy
      · exact Int.le_trans hxy (hp.1 z hz)
    · rintro ⟨h1, h2⟩ k hk
      cases k with
      | zero => exact h1 y (by simp)
      | succ k => exact h2 k (by simp at hk ⊢; omega)

/-! ### Comparing -/

theorem isNaN_ok (x : Int) (w : World) : Calls Try.prog F.cmp_isNaN_int #[.int .i64 x] w (Ret [.at .bool] fun (b : Bool) w' => b = false ∧ w = w') := by
  refine C_cmp_isNaN_int ?_
  unfold V_cmp_isNaN_int
  exact ⟨by simp, rfl⟩

theorem cmpLess_ok (x y : Int) (w : World) : Calls Try.prog F.cmp_Less_int #[.int .i64 x, .int .i64 y] w (Ret [.at .bool] fun (b : Bool) w' => b = decide (x < y) ∧ w = w') := by
  refine C_cmp_Less_int ?_
  unfold V_cmp_Less_int
  refine call (isNaN_ok _ _) ?_
  rintro _ _ ⟨rfl, rfl⟩
  exact cond_b (fun h => by cases h) (fun _ => ⟨rfl, rfl⟩)

theorem cmpCompare_ok (x y : Int) (w : World) : Calls Try.prog F.cmp_Compare_int #[.int .i64 x, .int .i64 y] w (Ret [.at (.int .i64)] fun (r : Int) w' => r = (if x < y then -1 else if y < x then 1 else 0) ∧ w = w') := by
  refine C_cmp_Compare_int ?_
  unfold V_cmp_Compare_int
  refine call (isNaN_ok _ _) ?_
  rintro _ _ ⟨rfl, rfl⟩
  refine call (isNaN_ok _ _) ?_
  rintro _ _ ⟨rfl, rfl⟩
  refine cond_b (fun h => by cases h) (fun _ => cond_b (fun h => by cases h) (fun _ => ?_))
  refine cond_dec (fun h => ⟨by rw [if_pos h], rfl⟩) (fun h => cond_dec (fun h2 => ⟨by rw [if_neg h, if_pos h2], rfl⟩) (fun h2 => ⟨by rw [if_neg h, if_neg h2], rfl⟩))

theorem compare_ok {w : World} {s t : Sl} {a b : List Int} (ha : R w s a) (hb : R w t b) :
    Calls Try.prog F.slices_Compare_sl_int_int #[s.v, t.v] w (Ret [.at (.int .i64)] fun (r : Int) w' => r = cmpL a b ∧ w = w') := by
  refine C_slices_Compare_sl_int_int ?_
  unfold V_slices_Compare_sl_int_int
  rw [ha.len, hb.len]
  refine ⟨IN a.length fun i w' => w = w' ∧ i ≤ b.length ∧ cmpL a b = cmpL (a.drop i) (b.drop i), MN a.length, IN_zero ⟨rfl, by omega, by simp⟩, ?_⟩
  rintro _ _ ⟨i, rfl, hi, rfl, hib, he⟩
  intros
  refine cond_dec (fun hlt => ?_) (fun hge => ?_)
  · have hi' : i < a.length := by omega
    have hda : a.drop i = a[i] :: a.drop (i + 1) := List.drop_eq_getElem_cons hi'
    refine ha.ixI hi' fun q _ hc => LD_int hc ?_
    refine cond_dec (fun hge => ⟨?_, rfl⟩) (fun hlt2 => ?_)
    · have hdb0 : b.drop i = [] := List.drop_of_length_le (by omega)
      rw [he, hda, hdb0]; rfl
    have hi2 : i < b.length := by omega
    have hdb : b.drop i = b[i] :: b.drop (i + 1) := List.drop_eq_getElem_cons hi2
    refine hb.ixI hi2 fun q _ hc => LD_int hc ?_
    refine call (cmpCompare_ok _ _ _) ?_
    rintro _ _ ⟨rfl, rfl⟩
    rw [hda, hdb, cmpL] at he
    refine cond_ne (fun hne => ⟨?_, rfl⟩) (fun heq => ?_)
    · rw [he]
      by_cases h1 : a[i] < b[i]
      · rw [if_pos h1, if_pos h1]
      · by_cases h2 : b[i] < a[i]
        · rw [if_neg h1, if_pos h2, if_neg h1, if_pos h2]
        · rw [if_neg h1, if_neg h2] at hne; exact absurd rfl hne
    · have h1 : ¬ a[i] < b[i] := fun h => by
        have heq' : (if a[i] < b[i] then (-1 : Int) else if b[i] < a[i] then 1 else 0) = 0 := heq
        rw [if_pos h] at heq'; omega
      have h2 : ¬ b[i] < a[i] := fun h => by
        have heq' : (if a[i] < b[i] then (-1 : Int) else if b[i] < a[i] then 1 else 0) = 0 := heq
        rw [if_neg h1, if_pos h] at heq'; omega
      rw [if_neg h1, if_neg h2] at he
      exact IN_next ha.le hi' ⟨rfl, by omega, he⟩
  · have : i = a.length := by omega
    subst this
    rw [List.drop_length] at he
    refine cond_dec (fun hlt => ⟨?_, rfl⟩) (fun hge2 => ⟨?_, rfl⟩)
    · have hi2 : a.length < b.length := by omega
      rw [he, List.drop_eq_getElem_cons hi2]; rfl
    · rw [he, List.drop_of_length_le (by omega)]; rfl

theorem isSorted_ok {w : World} {s : Sl} {l : List Int} (h : R w s l) :
    Calls Try.prog F.slices_IsSorted_sl_int_int #[s.v] w (Ret [.at .bool] fun (b : Bool) w' => (b = true ↔ l.Pairwise (· ≤ ·)) ∧ Ext w w') := by
  refine C_slices_IsSorted_sl_int_int ?_
  unfold V_slices_IsSorted_sl_int_int
  have hle := h.le
  rw [h.len, wrap_of (by omega) (by omega)]
  rw [← sorted_next]
  refine ⟨fun (i : Int) w' => Ext w w' ∧ -1 ≤ i ∧ i ≤ (l.length : Int) - 1 ∧ ∀ k (hk : k + 1 < l.length), i ≤ k → l[k] ≤ l[k + 1], fun i _ => (i + 1).toNat, ⟨Ext.refl _, by omega, by omega, fun k hk hi => by omega⟩, ?_⟩
  rintro i w1 ⟨hE, hi0, hi1, hall⟩
  intros
  refine cond_dec (fun hpos => ?_) (fun hnp => ⟨by simp only [true_iff]; exact fun k hk => hall k hk (by omega), hE⟩)
  obtain ⟨m, rfl⟩ : ∃ m : Nat, i = (m : Int) + 1 := ⟨(i - 1).toNat, by omega⟩
  have hm : m + 1 < l.length := by omega
  have hcast : (m : Int) + 1 = ((m + 1 : Nat) : Int) := by omega
  rw [show (m : Int) + 1 - 1 = (m : Int) by omega, wrap_of (n := (m : Int)) (by omega) (by omega), hcast]
  refine (h.ext hE).ixI hm fun q _ hc => LD_int hc ?_
  refine (h.ext hE).ixI (i := m) (by omega) fun q _ hc => LD_int hc ?_
  refine QCALL_bool (decide (l[m + 1] < l[m])) (fun w' _ => call (cmpLess_ok _ _ _) fun _ _ ⟨h1, h2⟩ => ⟨h1, h2 ▸ Ext.refl _⟩) ?_
  intro w2 hE2
  refine cond_dec (fun hlt => ⟨?_, hE.trans hE2⟩) (fun hge => ?_)
  · simp only [Bool.false_eq_true, false_iff]
    intro hh
    have := hh m hm
    omega
  · refine ⟨⟨hE.trans hE2, by omega, by omega, fun k hk hmk => ?_⟩, by simp only; omega⟩
    by_cases he : k = m
    · subst he; omega
    · exact hall k hk (by omega)

theorem configurationsOk_ok {w : World} {s : Sl} {L : List (List Int)} (h : R w s L) {size labels : Int} (hb : 1 ≤ labels ∧ labels ≤ 8) :
    Calls Try.prog F.i_configurationsOk #[s.v, .int .i64 size, .int .i64 labels] w (Ret [.at .bool] fun (b : Bool) w' => (b = true ↔ ConfOk L size labels) ∧ Ext w w') := by
  refine C_i_configurationsOk ?_
  unfold V_i_configurationsOk
  have hle := h.le
  rw [h.len, wrap_of (n := labels - 1) (by omega) (by omega)]
  refine ⟨IN L.length fun i w' => Ext w w' ∧ (∀ u < i, ∀ (hu : u < L.length), (L[u].length : Int) = size ∧ L[u].Pairwise (· ≤ ·) ∧ AllIn L[u] 0 (labels - 1)) ∧ ∀ u, u + 1 < i → ∀ (hu : u + 1 < L.length), cmpL L[u] L[u + 1] < 0, MN L.length, IN_zero ⟨Ext.refl _, fun u hu => absurd hu (by omega), fun u hu => absurd hu (by omega)⟩, ?_⟩
  rintro _ w1 ⟨i, rfl, hi, hE, h1, h2⟩
  intros
  refine cond_dec (fun hlt => ?_) (fun hge => ?_)
  rotate_left
  · have : i = L.length := by omega
    subst this
    exact ⟨by simp only [true_iff]; exact ⟨fun u hu => h1 u hu hu, fun u hu => h2 u hu hu⟩, hE⟩
  have hi' : i < L.length := by omega
  refine (h.ext hE).ixL hi' fun q s1 hR1 hc => LD_sl hc ?_
  rw [hR1.len]
  refine cond_ne (fun hne => ⟨?_, hE⟩) (fun heq => ?_)
  · simp only [Bool.false_eq_true, false_iff]
    exact fun hC => hne (hC.row i hi').1
  refine call (isSorted_ok hR1.any) ?_
  rintro x w2 ⟨hx, hE2⟩
  refine cond_not (fun hf => ⟨?_, hE.trans hE2⟩) (fun ht => ?_)
  · simp only [Bool.false_eq_true, false_iff]
    intro hC
    rw [hx.2 (hC.row i hi').2.1] at hf; cases hf
  refine call (allWithin_ok (hR1.any.ext hE2) 0 (labels - 1)) ?_
  rintro y w3 ⟨hy, hE3⟩
  have hE13 := hE2.trans hE3
  have hEt := hE.trans hE13
  refine cond_not (fun hf => ⟨?_, hEt⟩) (fun ht2 => ?_)
  · simp only [Bool.false_eq_true, false_iff]
    intro hC
    rw [hy.2 (hC.row i hi').2.2] at hf; cases hf
  have hrow : (L[i].length : Int) = size ∧ L[i].Pairwise (· ≤ ·) ∧ AllIn L[i] 0 (labels - 1) := ⟨heq, hx.1 ht, hy.1 ht2⟩
  refine cond_dec (fun hpos => ?_) (fun hnp => ?_)
  · obtain ⟨j, rfl⟩ : ∃ j, i = j + 1 := ⟨i - 1, by omega⟩
    rw [show ((j + 1 : Nat) : Int) - 1 = (j : Int) by omega, wrap_of (n := (j : Int)) (by omega) (by omega)]
    refine (h.ext hEt).ixL (i := j) (by omega) fun q s2 hR2 hc => LD_sl hc ?_
    refine call (compare_ok hR2.any (hR1.any.ext hE13)) ?_
    rintro _ _ ⟨rfl, rfl⟩
    refine cond_dec (fun hge => ⟨?_, hEt⟩) (fun hlt2 => ?_)
    · simp only [Bool.false_eq_true, false_iff]
      intro hC
      have := hC.rise j hi'
      omega
    · refine IN_next hle hi' ⟨hEt, all_succ h1 fun _ => hrow, fun u hu hu2 => ?_⟩
      by_cases he : u = j
      · subst he; omega
      · exact h2 u (by omega) hu2
  · refine IN_next hle hi' ⟨hEt, all_succ h1 fun _ => hrow, fun u hu => absurd hu (by omega)⟩

/-! ### The reference's side -/

theorem l1Sign_ok (n : Int) (w : World) : Calls Try.prog F.s_l1Sign #[.int .i64 n] w (Ret [.at (.int .i64)] fun (r : Int) w' => r = (if n < 0 then -1 else if 0 < n then 1 else 0) ∧ w = w') := by
  refine C_s_l1Sign ?_
  unfold V_s_l1Sign
  refine cond_dec (fun h => ⟨by rw [if_neg (by omega), if_pos h], rfl⟩) (fun h => cond_dec (fun h2 => ⟨by rw [if_pos h2], rfl⟩) (fun h2 => ⟨by rw [if_neg h2, if_neg h], rfl⟩))

theorem prOrder_ok {w : World} {s t : Sl} {a b : List Int} (ha : R w s a) (hb : R w t b) (hl : a.length = b.length) {c : Int} (hc8 : c ≤ 1000) (hA : AllIn a 0 c) (hB : AllIn b 0 c) :
    Calls Try.prog F.s_prOrder #[s.v, t.v] w (Ret [.at (.int .i64)] fun (r : Int) w' => r = cmpL a b ∧ w = w') := by
  refine C_s_prOrder ?_
  unfold V_s_prOrder
  rw [ha.len]
  refine ⟨IN a.length fun i w' => w = w' ∧ cmpL a b = cmpL (a.drop i) (b.drop i), MN a.length, IN_zero ⟨rfl, by simp⟩, ?_⟩
  rintro _ _ ⟨i, rfl, hi, rfl, he⟩
  intros
  refine cond_dec (fun hlt => ?_) (fun hge => ?_)
  · have hi' : i < a.length := by omega
    have hi2 : i < b.length := by omega
    have hda : a.drop i = a[i] :: a.drop (i + 1) := List.drop_eq_getElem_cons hi'
    have hdb : b.drop i = b[i] :: b.drop (i + 1) := List.drop_eq_getElem_cons hi2
    have h1 := hA _ (List.getElem_mem hi')
    have h2 := hB _ (List.getElem_mem hi2)
    rw [hda, hdb, cmpL] at he
    refine ha.ixI hi' fun q _ hc => LD_int hc ?_
    refine hb.ixI hi2 fun q _ hc => LD_int hc ?_
    refine cond_ne (fun hne => ?_) (fun heq => ?_)
    · refine hb.ixI hi2 fun q _ hc => LD_int hc ?_
      rw [wrap_of (by omega) (by omega)]
      refine call (l1Sign_ok _ _) ?_
      rintro _ _ ⟨rfl, rfl⟩
      refine ⟨?_, rfl⟩
      rw [he]
      by_cases h3 : a[i] < b[i]
      · rw [if_pos h3, if_pos (by omega)]
      · have hne' : a[i] ≠ b[i] := hne
        rw [if_neg h3, if_neg (by omega), if_pos (by omega), if_pos (by omega)]
    · have heq' : a[i] = b[i] := heq
      rw [if_neg (by omega), if_neg (by omega)] at he
      exact IN_next ha.le hi' ⟨rfl, he⟩
  · have : i = a.length := by omega
    subst this
    rw [List.drop_length, List.drop_of_length_le (by omega)] at he
    exact ⟨he.symm, rfl⟩

theorem prLists_k4 {w0 w : World} {s1 : Sl} {l : List Int} (hR : R w s1 l) {size : Int} (hs : (l.length : Int) = size) {I : Int → World → Prop} {m : Int → World → Nat} {x : Int} {w1 : World} {Q : Bool → World → Prop} (hE : Ext w0 w)
    (hno : ¬ l.Pairwise (· ≤ ·) → ∀ w', Ext w0 w' → Q false w')
    (hyes : l.Pairwise (· ≤ ·) → ∀ w', Ext w0 w' → I (IntKind.i64.wrap (x + 1)) w' ∧ m (IntKind.i64.wrap (x + 1)) w' < m x w1) :
    V_s_prLists_k4 I m x w1 size Q s1 w := by
  unfold V_s_prLists_k4
  have hle := hR.le
  rw [← sorted_next] at hno hyes
  refine ⟨fun (k : Int) w' => ∃ j : Nat, k = (j : Int) + 1 ∧ (j = 0 ∨ j + 1 ≤ l.length) ∧ Ext w w' ∧ ∀ u < j, ∀ (hu : u + 1 < l.length), l[u] ≤ l[u + 1], fun k _ => (size - k).toNat, ⟨0, rfl, .inl rfl, Ext.refl _, fun u hu => absurd hu (by omega)⟩, ?_⟩
  rintro _ w5 ⟨j, rfl, hj, hE5, hall⟩
  intros
  refine cond_dec (fun hlt => ?_) (fun hge => hyes (fun u hu => hall u (by omega) hu) _ (hE.trans hE5))
  have hj' : j + 1 < l.length := by omega
  rw [show (j : Int) + 1 - 1 = (j : Int) by omega, wrap_of (n := (j : Int)) (by omega) (by omega), show (j : Int) + 1 = ((j + 1 : Nat) : Int) by omega]
  refine (hR.ext hE5).ixI (i := j) (by omega) fun q _ hc => LD_int hc ?_
  refine (hR.ext hE5).ixI hj' fun q _ hc => LD_int hc ?_
  intro w6 hE6
  refine cond_dec (fun hgt => hno (fun hh => ?_) _ (hE.trans (hE5.trans hE6))) (fun hng => ?_)
  · have := hh j hj'
    omega
  · rw [wrap_of (n := ((j + 1 : Nat) : Int) + 1) (by omega) (by omega)]
    exact ⟨⟨j + 1, by omega, .inr (by omega), hE5.trans hE6, all_succ hall fun _ => by omega⟩, by simp only; omega⟩

theorem prLists_ok {w : World} {s : Sl} {L : List (List Int)} (h : R w s L) {size labels : Int} (hb : 1 ≤ labels ∧ labels ≤ 8) :
    Calls Try.prog F.s_prLists #[s.v, .int .i64 size, .int .i64 labels] w (Ret [.at .bool] fun (b : Bool) w' => (b = true ↔ ConfOk L size labels) ∧ Ext w w') := by
  refine C_s_prLists ?_
  unfold V_s_prLists
  have hle := h.le
  rw [h.len, wrap_of (n := labels - 1) (by omega) (by omega)]
  refine ⟨IN L.length fun i w' => Ext w w' ∧ (∀ u < i, ∀ (hu : u < L.length), (L[u].length : Int) = size ∧ L[u].Pairwise (· ≤ ·) ∧ AllIn L[u] 0 (labels - 1)) ∧ ∀ u, u + 1 < i → ∀ (hu : u + 1 < L.length), cmpL L[u] L[u + 1] < 0, MN L.length, IN_zero ⟨Ext.refl _, fun u hu => absurd hu (by omega), fun u hu => absurd hu (by omega)⟩, ?_⟩
  rintro _ w1 ⟨i, rfl, hi, hE, h1, h2⟩
  intros
  refine cond_dec (fun hlt => ?_) (fun hge => ?_)
  rotate_left
  · have : i = L.length := by omega
    subst this
    exact ⟨by simp only [true_iff]; exact ⟨fun u hu => h1 u hu hu, fun u hu => h2 u hu hu⟩, hE⟩
  have hi' : i < L.length := by omega
  refine (h.ext hE).ixL hi' fun q s1 hR1 hc => LD_sl hc ?_
  rw [hR1.len]
  refine cond_ne (fun hne => ⟨?_, hE⟩) (fun heq => ?_)
  · simp only [Bool.false_eq_true, false_iff]
    exact fun hC => hne (hC.row i hi').1
  refine call (l1All_ok hR1.any 0 (labels - 1)) ?_
  rintro y _ ⟨hy, rfl⟩
  refine cond_not (fun hf => ⟨?_, hE⟩) (fun ht2 => ?_)
  · simp only [Bool.false_eq_true, false_iff]
    intro hC
    rw [hy.2 (hC.row i hi').2.2] at hf; cases hf
  have hall := hy.1 ht2
  have hno : ¬ L[i].Pairwise (· ≤ ·) → ∀ w', Ext w w' → (false = true ↔ ConfOk L size labels) ∧ Ext w w' := fun hn w' hE' => ⟨by simp only [Bool.false_eq_true, false_iff]; exact fun hC => hn (hC.row i hi').2.1, hE'⟩
  refine cond_dec (fun hpos => ?_) (fun hnp => ?_)
  · obtain ⟨j, rfl⟩ : ∃ j, i = j + 1 := ⟨i - 1, by omega⟩
    rw [show ((j + 1 : Nat) : Int) - 1 = (j : Int) by omega, wrap_of (n := (j : Int)) (by omega) (by omega)]
    refine (h.ext hE).ixL (i := j) (by omega) fun q s2 hR2 hc => LD_sl hc ?_
    have hrj := h1 j (by omega) (by omega)
    refine call (prOrder_ok hR2.any hR1.any (by omega) (c := labels - 1) (by omega) hrj.2.2 hall) ?_
    rintro _ _ ⟨rfl, rfl⟩
    refine cond_dec (fun hge => ⟨?_, hE⟩) (fun hlt2 => ?_)
    · simp only [Bool.false_eq_true, false_iff]
      intro hC
      have := hC.rise j hi'
      omega
    · refine prLists_k4 hR1.any heq hE hno fun hs w' hE' => IN_next hle hi' ⟨hE', all_succ h1 fun _ => ⟨heq, hs, hall⟩, fun u hu hu2 => ?_⟩
      by_cases he : u = j
      · subst he; omega
      · exact h2 u (by omega) hu2
  · refine prLists_k4 hR1.any heq hE hno fun hs w' hE' => IN_next hle hi' ⟨hE', all_succ h1 fun _ => ⟨heq, hs, hall⟩, fun u hu => absurd hu (by omega)⟩

end Go.Proofs.Ytndebacmnpghkaa
end

section
/- Problems: their configurations looked up, what is asked of them, both sides. -/
namespace Go.Proofs.Ytndebacmnpghkaa
open Go.GX Go.RowKit
set_option maxRecDepth 100000

/-! ### Looking up -/

theorem mid_nat {a b : Nat} (h : a + b ≤ 9000000000000000000) : IntKind.i64.wrap (shrI .u64 (IntKind.u64.wrap (IntKind.i64.wrap ((a : Int) + (b : Int)))) 1) = (((a + b) / 2 : Nat) : Int) := by
  rw [wrap_of (n := (a : Int) + (b : Int)) (by omega) (by omega), show (a : Int) + (b : Int) = ((a + b : Nat) : Int) by omega, wrap_u64 (by omega) (by omega)]
  have h1 := shr_nat .u64 (a + b) 1 (by decide)
  have e : shrI .u64 ((a + b : Nat) : Int) 1 = (((a + b) / 2 : Nat) : Int) := by simpa using h1
  rw [e, wrap_of (by omega) (by omega)]

theorem search_at {w : World} {s t : Sl} {L : List (List Int)} {T0 : List Int} (h : R w s L) (ht : R w t T0) (hr : ∀ j i (_ : i < j) (hj : j < L.length), cmpL (L[i]'(by omega)) L[j] < 0) (hl : L.length ≤ 1048576) :
    Calls Try.prog F.slices_BinarySearchFunc_sl_sl_int_sl_int_sl_int #[s.v, t.v, .func (.func F.slices_Compare_sl_int_int) #[] #[]] w (Ret [.at (.int .i64), .at .bool] fun (i : Int) (b : Bool) w' => b = decide (T0 ∈ L) ∧ (T0 ∈ L → ∃ k : Nat, i = k ∧ ∃ hk : k < L.length, L[k] = T0) ∧ w = w') := by
  refine C_slices_BinarySearchFunc_sl_sl_int_sl_int_sl_int ?_
  unfold V_slices_BinarySearchFunc_sl_sl_int_sl_int_sl_int
  rw [h.len]
  have hcmp : ∀ {s' : Sl} {a : List Int}, R w s' a → CALLV Try.prog (.func (.func F.slices_Compare_sl_int_int) #[] #[]) #[s'.v, t.v] w (Ret [.at (.int .i64)] fun (r : Int) w' => r = cmpL a T0 ∧ w = w') := fun hs => CALLV_mk (by kernel_rfl) (compare_ok hs ht)
  refine ⟨fun (i j : Int) w' => w = w' ∧ ∃ a b : Nat, i = a ∧ j = b ∧ a ≤ b ∧ b ≤ L.length ∧ (∀ k (hk : k < L.length), k < a → cmpL L[k] T0 < 0) ∧ ∀ k (hk : k < L.length), b ≤ k → 0 ≤ cmpL L[k] T0, fun i j _ => (j - i).toNat,
    ⟨rfl, 0, L.length, rfl, rfl, by omega, by omega, fun k hk h => by omega, fun k hk h => by omega⟩, ?_⟩
  rintro _ _ _ ⟨rfl, a, b, rfl, rfl, hab, hbl, h1, h2⟩
  intros
  refine cond_dec (fun hlt => ⟨by omega, ?_⟩) (fun hge => ?_)
  · rw [mid_nat (by omega)]
    generalize hm : (a + b) / 2 = m
    have hmL : m < L.length := by omega
    refine h.ixL hmL fun q s1 hR1 hc => LD_sl hc ?_
    refine callv (hcmp hR1.any) ?_
    rintro _ _ ⟨rfl, rfl⟩
    refine cond_dec (fun hneg => ?_) (fun hnn => ?_)
    · rw [wrap_of (n := (m : Int) + 1) (by omega) (by omega)]
      refine ⟨⟨rfl, m + 1, b, by omega, rfl, by omega, hbl, fun k hk hka => ?_, h2⟩, by simp only; omega⟩
      by_cases he : k = m
      · subst he; exact hneg
      · exact cmpL_trans (hr m k (by omega) hmL) hneg
    · refine ⟨⟨rfl, a, m, rfl, rfl, by omega, by omega, h1, fun k hk hmk => ?_⟩, by simp only; omega⟩
      by_cases he : k = m
      · subst he; omega
      · by_cases hc0 : cmpL L[k] T0 < 0
        · have := cmpL_trans (hr k m (by omega) hk) hc0
          omega
        · omega
  · have hab' : a = b := by omega
    subst hab'
    have hmem : ∀ (hk : a < L.length), T0 ∈ L ↔ cmpL L[a] T0 = 0 := fun hk => by
      constructor
      · intro hT
        obtain ⟨m, hm, hme⟩ := List.mem_iff_getElem.1 hT
        have hm0 : cmpL L[m] T0 = 0 := cmpL_zero.2 hme
        rcases Nat.lt_trichotomy m a with hlt | heq | hgt
        · have := h1 m hm hlt; omega
        · subst heq; exact hm0
        · have h3 := hr m a hgt hm
          have h4 := h2 a hk (Nat.le_refl _)
          rw [hme] at h3
          omega
      · intro hz
        rw [← cmpL_zero.1 hz]; exact List.getElem_mem hk
    refine cond_dec (fun hlt => ?_) (fun hge2 => ?_)
    · have hk : a < L.length := by omega
      refine h.ixL hk fun q s1 hR1 hc => LD_sl hc ?_
      refine callv (hcmp hR1.any) ?_
      rintro _ _ ⟨rfl, rfl⟩
      refine ⟨?_, fun hT => ⟨a, rfl, hk, cmpL_zero.1 ((hmem hk).1 hT)⟩, rfl⟩
      rw [Bool.eq_iff_iff, decide_eq_true_eq, hmem hk, beq_iff_eq]
    · have : ¬ T0 ∈ L := fun hT => by
        obtain ⟨m, hm, hme⟩ := List.mem_iff_getElem.1 hT
        have := h1 m hm (by omega)
        rw [hme, cmpL_zero.2 rfl] at this
        omega
      refine ⟨?_, fun hT => absurd hT this, rfl⟩
      simp [this]

theorem search_ok {w : World} {s t : Sl} {L : List (List Int)} {T0 : List Int} (h : R w s L) (ht : R w t T0) (hr : ∀ j i (_ : i < j) (hj : j < L.length), cmpL (L[i]'(by omega)) L[j] < 0) (hl : L.length ≤ 1048576) :
    Calls Try.prog F.slices_BinarySearchFunc_sl_sl_int_sl_int_sl_int #[s.v, t.v, .func (.func F.slices_Compare_sl_int_int) #[] #[]] w (Ret [.at (.int .i64), .at .bool] fun (_ : Int) (b : Bool) w' => b = decide (T0 ∈ L) ∧ w = w') := by
  refine call (search_at h ht hr hl) ?_
  rintro i b w' ⟨h1, _, h2⟩
  exact ⟨h1, h2⟩

theorem hasConfiguration_ok {w : World} {s t : Sl} {L : List (List Int)} {l : List Int} (h : R w s L) (ht : R w t l) (hr : ∀ j i (_ : i < j) (hj : j < L.length), cmpL (L[i]'(by omega)) L[j] < 0) (hl : L.length ≤ 1048576) (hll : l.length ≤ 1048576) :
    Calls Try.prog F.i_hasConfiguration #[s.v, t.v] w (Ret [.at .bool] fun (b : Bool) w' => b = decide (sortI l ∈ L) ∧ Ext w w') := by
  refine C_i_hasConfiguration ?_
  unfold V_i_hasConfiguration
  refine values_ok fun w1 hE1 hc1 => ?_
  refine call (sorted_ok hc1 (ht.ext hE1) hll) ?_
  rintro r w2 ⟨hE2, hO2⟩
  have hE := hE1.trans hE2
  refine call (search_ok (h.ext hE) (hO2.rep (sortI_I64 (flat_ok ht))).any hr hl) ?_
  rintro i b _ ⟨rfl, rfl⟩
  exact ⟨rfl, hE⟩

/-! ### The reference's looking up -/

theorem l1Same_ok {w : World} {s t : Sl} {a b : List Int} (ha : R w s a) (hb : R w t b) :
    Calls Try.prog F.s_l1Same #[s.v, t.v] w (Ret [.at .bool] fun (r : Bool) w' => r = decide (a = b) ∧ Ext w w') := by
  refine C_s_l1Same ?_
  unfold V_s_l1Same
  rw [ha.len, hb.len]
  refine cond_ne (fun hne => ⟨?_, Ext.refl _⟩) (fun heq => ?_)
  · have : a ≠ b := fun he => hne (by rw [he])
    simp [this]
  have hl : a.length = b.length := by have heq' : ((a.length : Nat) : Int) = (b.length : Nat) := heq; omega
  refine ⟨IN a.length fun i w' => Ext w w' ∧ ∀ u < i, a[u]? = b[u]?, MN a.length, IN_zero ⟨Ext.refl _, fun u hu => absurd hu (by omega)⟩, ?_⟩
  rintro _ w1 ⟨i, rfl, hi, hE, hI⟩
  intros
  refine cond_dec (fun hlt => ?_) (fun hge => ?_)
  · have hi' : i < a.length := by omega
    have hi2 : i < b.length := by omega
    refine (ha.ext hE).ixI hi' fun q _ hc => LD_int hc ?_
    refine (hb.ext hE).ixI hi2 fun q _ hc => LD_int hc ?_
    intro w2 hE2
    refine cond_ne (fun hne => ⟨?_, hE.trans hE2⟩) (fun heq => IN_next ha.le hi' ⟨hE.trans hE2, all_succ hI ?_⟩)
    · have : a ≠ b := fun he => by subst he; exact hne rfl
      simp [this]
    · have heq' : a[i] = b[i] := heq
      simp [hi', hi2, heq']
  · have : i = a.length := by omega
    subst this
    have : a = b := by
      apply List.ext_getElem?
      intro u
      by_cases hu : u < a.length
      · exact hI u hu
      · rw [List.getElem?_eq_none (by omega), List.getElem?_eq_none (by omega)]
    exact ⟨by simp [this], hE⟩

theorem prHas_ok {w : World} {s t : Sl} {L : List (List Int)} {l : List Int} (h : R w s L) (ht : R w t l) :
    Calls Try.prog F.s_prHas #[s.v, t.v] w (Ret [.at .bool] fun (b : Bool) w' => b = decide (l ∈ L) ∧ Ext w w') := by
  refine C_s_prHas ?_
  unfold V_s_prHas
  rw [h.len]
  refine ⟨IN L.length fun i w' => Ext w w' ∧ l ∉ L.take i, MN L.length, IN_zero ⟨Ext.refl _, by simp⟩, ?_⟩
  rintro _ w1 ⟨i, rfl, hi, hE, hI⟩
  intros
  refine cond_dec (fun hlt => ?_) (fun hge => ?_)
  · have hi' : i < L.length := by omega
    refine (h.ext hE).ixL hi' fun q s1 hR1 hc => LD_sl hc ?_
    refine call (l1Same_ok (ht.ext hE) hR1.any) ?_
    rintro _ w2 ⟨rfl, hE2⟩
    refine cond_dec (fun he => ⟨?_, hE.trans hE2⟩) (fun hne => IN_next h.le hi' ⟨hE.trans hE2, not_mem_take_succ hi' hI fun he => hne he.symm⟩)
    have : l ∈ L := by rw [he]; exact List.getElem_mem hi'
    simp [this]
  · have : i = L.length := by omega
    subst this
    rw [List.take_length] at hI
    exact ⟨by simp [hI], hE⟩

/-- Sorting by inserting. -/
theorem swap_perm {l : List Int} {k : Nat} (hk : k + 1 < l.length) : ((l.set (k + 1) l[k]).set k l[k + 1]).Perm l := by
  have hl : l = l.take k ++ l[k] :: l[k + 1] :: l.drop (k + 2) := by
    rw [← List.drop_eq_getElem_cons hk, ← List.drop_eq_getElem_cons (show k < l.length by omega), List.take_append_drop]
  have hlen : (l.take k).length = k := by simp; omega
  generalize l[k] = x at *
  generalize l[k + 1] = y at *
  generalize hA : l.take k = A at *
  generalize hB : l.drop (k + 2) = B at *
  rw [hl, List.set_append_right _ _ (by omega), hlen, show k + 1 - k = 1 by omega, List.set_cons_succ, List.set_cons_zero, List.set_append_right _ _ (by omega), hlen, Nat.sub_self, List.set_cons_zero]
  exact List.Perm.append_left _ (List.Perm.swap _ _ _)

def InsInv (M : List Int) (i k : Nat) : Prop := ∀ u v (_ : u < v) (hv : v < M.length), v ≤ i → v ≠ k → M[u]'(by omega) ≤ M[v]

theorem ins_swap {M : List Int} {i k : Nat} (hk : k + 1 < M.length) (hi : i < M.length) (hki : k + 1 ≤ i) (h : InsInv M i (k + 1)) (hgt : M[k] > M[k + 1]) : InsInv ((M.set (k + 1) M[k]).set k M[k + 1]) i k := by
  intro u v huv hv hvi hvk
  have hvM : v < M.length := by simpa using hv
  rw [List.getElem_set, List.getElem_set, List.getElem_set, List.getElem_set]
  by_cases h1 : k = u
  · subst h1
    rw [if_pos rfl, if_neg (by omega)]
    by_cases h2 : k + 1 = v
    · subst h2; rw [if_pos rfl]; omega
    · rw [if_neg h2]
      exact h (k + 1) v (by omega) hvM hvi (by omega)
  · rw [if_neg h1, if_neg (by omega : ¬ k = v)]
    by_cases h3 : k + 1 = u
    · subst h3
      rw [if_pos rfl, if_neg (by omega)]
      exact h k v (by omega) hvM hvi (by omega)
    · rw [if_neg h3]
      by_cases h2 : k + 1 = v
      · subst h2; rw [if_pos rfl]
        exact h u k (by omega) (by omega) (by omega) (by omega)
      · rw [if_neg h2]
        exact h u v huv hvM hvi (by omega)

theorem ins_done {M : List Int} {i k : Nat} (hi : i < M.length) (hki : k ≤ i) (h : InsInv M i k) (hle : k = 0 ∨ ∃ j, ∃ hj : j + 1 < M.length, k = j + 1 ∧ M[j] ≤ M[j + 1]) : InsInv M i (i + 1) := by
  intro u v huv hv hvi _
  by_cases hvk : v = k
  · subst hvk
    rcases hle with h0 | ⟨j, hj, rfl, hjl⟩
    · omega
    · rcases Nat.lt_or_eq_of_le (Nat.le_of_lt_succ huv) with h1 | h1
      · exact Int.le_trans (h u j h1 (by omega) (by omega) (by omega)) hjl
      · subst h1; exact hjl
  · exact h u v huv hv hvi hvk

theorem prSorted_ok {w : World} {s : Sl} {l : List Int} (h : R w s l) (hl : l.length ≤ 1048576) :
    Calls Try.prog F.s_prSorted #[s.v] w (Ret [.at .sl] fun (r : Sl) w' => Ext w w' ∧ OwnL w' w.heap.size T.t_int r (sortI l)) := by
  refine C_s_prSorted ?_
  unfold V_s_prSorted
  refine call (l1Own_ok h hl) ?_
  rintro r w1 ⟨hE1, hO1⟩
  have hok := flat_ok h
  rw [hO1.1]
  refine ⟨IN l.length fun i w' => Ext w w' ∧ ∃ M : List Int, OwnL w' w.heap.size T.t_int r M ∧ M.Perm l ∧ InsInv M i i, MN l.length, IN_zero ⟨hE1, l, hO1, List.Perm.refl _, fun u v huv hv hvi hne => absurd hvi (by omega)⟩, ?_⟩
  rintro _ w2 ⟨i, rfl, hi, hE2, M, hO2, hp2, hI2⟩
  intros
  refine cond_dec (fun hlt => ?_) (fun hge => ?_)
  rotate_left
  · have hil : i = l.length := by omega
    subst hil
    have hsort : M.Pairwise (· ≤ ·) := List.pairwise_iff_getElem.2 fun u v hu hv huv => hI2 u v huv hv (by have := hp2.length_eq; omega) (by have := hp2.length_eq; omega)
    have he : M = sortI l := (hp2.trans (sortI_perm l).symm).eq_of_pairwise (fun a b _ _ h1 h2 => Int.le_antisymm h1 h2) hsort (sortI_sorted l)
    rw [he] at hO2
    exact ⟨hE2, hO2⟩
  have hi' : i < l.length := by omega
  refine ⟨fun (k : Int) w' => ∃ j : Nat, k = j ∧ j ≤ i ∧ Ext w w' ∧ ∃ M : List Int, OwnL w' w.heap.size T.t_int r M ∧ M.Perm l ∧ InsInv M i j, fun k _ => k.toNat, ⟨i, rfl, Nat.le_refl _, hE2, M, hO2, hp2, hI2⟩, ?_⟩
  rintro _ w3 ⟨j, rfl, hj, hE3, M3, hO3, hp3, hI3⟩
  intros
  have hlen3 := hp3.length_eq
  have hnext : ∀ w', Ext w3 w' → InsInv M3 i (i + 1) → IN l.length (fun i w' => Ext w w' ∧ ∃ M : List Int, OwnL w' w.heap.size T.t_int r M ∧ M.Perm l ∧ InsInv M i i) (IntKind.i64.wrap ((i : Int) + 1)) w' ∧ MN l.length (IntKind.i64.wrap ((i : Int) + 1)) w' < MN l.length (i : Int) w2 := fun w' hE' hI' => by
    refine IN_next (by omega) hi' ⟨hE3.trans hE', M3, hO3.ext hE', hp3, fun u v huv hv hvi hne => hI' u v huv hv (by omega) (by omega)⟩
  refine cond_dec (fun hpos => ?_) (fun hnp => fun w5 hE5 => ?_)
  rotate_left
  · have : j = 0 := by omega
    subst this
    exact hnext w5 hE5 (ins_done (by omega) (by omega) hI3 (.inl rfl))
  obtain ⟨m, rfl⟩ : ∃ m, j = m + 1 := ⟨j - 1, by omega⟩
  have hm1 : m + 1 < M3.length := by omega
  have hok3 : ∀ x ∈ M3, I64 x := fun x hx => hok x (hp3.mem_iff.1 hx)
  rw [show ((m + 1 : Nat) : Int) - 1 = (m : Int) by omega, wrap_of (n := (m : Int)) (by omega) (by omega)]
  have hR3 := (hO3.rep hok3).any
  refine hR3.ixI (i := m) (by omega) fun q _ hc => LD_int hc ?_
  refine hR3.ixI hm1 fun q _ hc => LD_int hc ?_
  intro w4 hE4
  refine cond_dec (fun hgt => ?_) (fun hng => ?_)
  · have hO4 := hO3.ext hE4
    have hR4 := hR3.ext hE4
    refine hR4.ixI hm1 fun q _ hc => LD_int hc ?_
    refine hR4.ixI (i := m) (by omega) fun q _ hc => LD_int hc ?_
    refine IX_own hO4 hm1 rfl fun q hq => ?_
    refine ST_own hO4 hm1 hq M3[m] rfl fun w8 hO8 hs8 => ?_
    refine IX_own hO8 (i := m) (by simp; omega) rfl fun q2 hq2 => ?_
    refine ST_own hO8 (by simp; omega) hq2 M3[m + 1] rfl fun w9 hO9 hs9 => ?_
    have hEw := hE3.trans hE4
    have hE8 := hs8.ext0 hEw (fun k hk => (hO4.blk k hk).1)
    have hE9 := hs9.ext0 hE8 (fun k hk => (hO8.blk k hk).1)
    exact ⟨⟨m, rfl, by omega, hE9, _, hO9, (swap_perm hm1).trans hp3, ins_swap hm1 (by omega) (by omega) hI3 hgt⟩, by simp only; omega⟩
  · exact hnext w4 hE4 (ins_done (by omega) hj hI3 (.inr ⟨m, hm1, rfl, by omega⟩))

end Go.Proofs.Ytndebacmnpghkaa
end

section
/- Arguments that come in, read as data: from the statements' own reading of memory to the rules' reading. No program is named here. -/
namespace Go.GX
open Go.RowKit Go.WideShapes Go.ChangeShapes Go.ChangeAt Go.Deep

/-- Whatever the statements read at type t is data of α in memory. -/
def Reads (P : Program) (t : TypeId) (α : Type) [Rep α] : Prop :=
  ∀ {H : Type} {enc : TypeId × Value → H} {w : World} {base : Nat} {spare : Nat → Bool} {held : Bool} {fuel : Nat} {cs : List Value} {x : DataW H × List MemPlace},
    DataW.trod enc P w base spare held fuel t cs = some x → ∃ a : α, Rep.rep (fun _ => True) w cs a

theorem Reads.int {P : Program} {t : TypeId} (ht : P.underlying t = some (.int .i64)) : Reads P t Int := fun h => by
  obtain ⟨n, rfl, _, hn⟩ := DataW.trod_int ht h
  exact ⟨n, rfl, bounds_i64 hn⟩

theorem Reads.slice {P : Program} {t e : TypeId} {α : Type} [RepP α] (ht : P.underlying t = some (.slice e)) (hc : P.cellsOf e = Rep.sz α) (he : Reads P e α) : Reads P t (List α) := by
  intro H enc w base spare held fuel cs x h
  rcases open_slice ht h with ⟨rfl, _⟩ | ⟨a, len, cap, m, n, D, Pl, rfl, hb, hl, hm, hmm, _, hx⟩
  · exact ⟨[], ⟨none, 0, 0⟩, rfl, rfl, ⟨Nat.le_refl _, Nat.zero_le _⟩, fun i x hx => by simp at hx⟩
  · have hlm : len ≤ m := by rw [hmm]; split <;> omega
    have hall : ∀ i : Fin len, ∃ z : α, ∃ cs', Rep.rep (fun _ => True) w cs' z ∧ ∀ j v, cs'[j]? = some v → w.cell? (a.add (i.1 * Rep.sz α + j)) = some v := fun i => by
      obtain ⟨cs', h1, h2⟩ := hx i.1 (by omega)
      obtain ⟨z, hz⟩ := he h2
      refine ⟨z, cs', hz, fun j v hj => ?_⟩
      obtain ⟨_, hlen, hcell⟩ := World.cells?_some h1
      have hj' : j < cs'.length := (List.getElem?_eq_some_iff.1 hj).1
      have := hcell j (by omega)
      rw [hj, add_add, hc] at this
      exact this
    refine ⟨List.ofFn fun i => (hall i).choose, ⟨some a, len, cap⟩, rfl, by simp, ⟨hl, by simpa [maxLen] using hm⟩, fun i x hx => ?_⟩
    rw [List.getElem?_ofFn] at hx
    split at hx
    · rename_i hi
      simp at hx
      subst hx
      obtain ⟨cs', h1, h2⟩ := (hall ⟨i, hi⟩).choose_spec
      exact ⟨a, cs', rfl, trivial, h1, h2⟩
    · cases hx

/-- A struct type whose fields have these types, each one cell, one after the other. -/
def fieldsB (P : Program) (t : TypeId) (ts : List TypeId) : Bool :=
  (match P.underlying t with | some (.struct fs) => fs.toList.map (fun f => (f.type, f.offset)) == ts.zipIdx | _ => false) && ts.all (fun u => P.cellsOf u == 1) && P.cellsOf t == ts.length

theorem fieldsB_struct {P : Program} {t : TypeId} {ts : List TypeId} (h : fieldsB P t ts = true) :
    ∃ fs, P.underlying t = some (.struct fs) ∧ fs.toList.map (fun f => (f.type, f.offset)) = ts.zipIdx ∧ (∀ u ∈ ts, P.cellsOf u = 1) ∧ P.cellsOf t = ts.length := by
  simp only [fieldsB, Bool.and_eq_true, List.all_eq_true, beq_iff_eq] at h
  obtain ⟨⟨h1, h2⟩, h3⟩ := h
  cases hu : P.underlying t with
  | none => rw [hu] at h1; cases h1
  | some u =>
    rw [hu] at h1
    cases u with
    | struct fs => exact ⟨fs, rfl, by simpa using h1, h2, h3⟩
    | _ => cases h1

theorem trod_fields {P : Program} {t : TypeId} {ts : List TypeId} (h : fieldsB P t ts = true) {H : Type} {enc : TypeId × Value → H} {w : World} {base : Nat} {spare : Nat → Bool} {held : Bool} {fuel : Nat} {cs : List Value} {x : DataW H × List MemPlace}
    (hx : DataW.trod enc P w base spare held fuel t cs = some x) : cs.length = ts.length ∧ ∀ (i : Nat) (u : TypeId), ts[i]? = some u → ∃ v n y, cs[i]? = some v ∧ DataW.trod enc P w base spare held n u [v] = some y := by
  obtain ⟨fs, hu, hm, h1, hc⟩ := fieldsB_struct h
  obtain ⟨xs, n, _, _, hl, hlen, hf⟩ := DataW.trod_struct hu hx
  refine ⟨hl.trans hc, fun i u hi => ?_⟩
  have hi' : i < ts.length := (List.getElem?_eq_some_iff.1 hi).1
  have hfl : fs.size = ts.length := by have := congrArg List.length hm; simpa using this
  have hg : (fs.toList.map (fun f => (f.type, f.offset)))[i]? = some (u, i) := by rw [hm]; simp [List.getElem?_zipIdx, hi]
  have hif : i < fs.size := by omega
  have hfi : fs[i]? = some fs[i] := by simp [hif]
  rw [List.getElem?_map] at hg
  simp [hif] at hg
  have := hf i fs[i] hfi
  have hci : i < cs.length := by omega
  rw [hg.1, hg.2, h1 u (List.mem_of_getElem? hi), List.drop_eq_getElem_cons hci, List.take_succ_cons, List.take_zero] at this
  refine ⟨cs[i], n, xs[i]'(by omega), by simp [hci], ?_⟩
  rw [this]; simp

/-- An argument that is a slice. -/
theorem open_list {P : Program} {t e : TypeId} {α : Type} [RepP α] (ht : P.underlying t = some (.slice e)) (hR : Reads P t (List α)) {H : Type} {enc : TypeId × Value → H} {w : World} {base b0 : Nat} {spare : Nat → Bool} {held : Bool} {r : Reach} {v : Value} {d : DataW H} {p : List MemPlace}
    (hv : Value.okWide P w r b0 t v) (h : DataW.Trod enc P w base spare held t v d p) : ∃ (s : Sl) (l : List α), v = s.v ∧ R w s l := by
  obtain ⟨a, len, cap, rfl⟩ := okWide_slice ht hv
  obtain ⟨fuel, hf⟩ := h
  obtain ⟨l, s, hs, hl⟩ := hR hf
  simp [Value.cells] at hs
  obtain ⟨rfl, rfl, rfl⟩ := hs
  exact ⟨s, l, rfl, hl⟩

theorem open_problem {P : Program} {t u0 u1 u2 u3 : TypeId} {α β : Type} [RepP α] [RepP β] (hf : fieldsB P t [u0, u1, u2, u3] = true) (h0 : Reads P u0 Int) (h1 : Reads P u1 Int) (h2 : Reads P u2 (List α)) (h3 : Reads P u3 (List β))
    {H : Type} {enc : TypeId × Value → H} {w : World} {base b0 : Nat} {spare : Nat → Bool} {held : Bool} {r : Reach} {v : Value} {d : DataW H} {p : List MemPlace}
    (hv : Value.okWide P w r b0 t v) (h : DataW.Trod enc P w base spare held t v d p) : ∃ (a b : Int) (c e : Sl) (y : List α) (z : List β), v = .agg #[.int .i64 a, .int .i64 b, c.v, e.v] ∧ I64 a ∧ I64 b ∧ R w c y ∧ R w e z := by
  obtain ⟨fs, hu, _⟩ := fieldsB_struct hf
  obtain ⟨cs, rfl, _⟩ := okWide_struct hu hv
  obtain ⟨fuel, hx⟩ := h
  obtain ⟨hl, hx⟩ := trod_fields hf hx
  obtain ⟨v0, n0, y0, hv0, ht0⟩ := hx 0 u0 rfl
  obtain ⟨v1, n1, y1, hv1, ht1⟩ := hx 1 u1 rfl
  obtain ⟨v2, n2, y2, hv2, ht2⟩ := hx 2 u2 rfl
  obtain ⟨v3, n3, y3, hv3, ht3⟩ := hx 3 u3 rfl
  obtain ⟨a, ha, hA⟩ := h0 ht0
  obtain ⟨b, hb, hB⟩ := h1 ht1
  obtain ⟨y, c, hc, hC⟩ := h2 ht2
  obtain ⟨z, e, he, hE⟩ := h3 ht3
  simp only [List.cons.injEq, and_true] at ha hb hc he
  subst ha; subst hb; subst hc; subst he
  refine ⟨a, b, c, e, y, z, ?_, hA, hB, hC, hE⟩
  congr 1
  apply Array.ext'
  apply List.ext_getElem?
  intro i
  match i with
  | 0 => simpa [Value.cells] using hv0
  | 1 => simpa [Value.cells] using hv1
  | 2 => simpa [Value.cells] using hv2
  | 3 => simpa [Value.cells] using hv3
  | i + 4 => simp [Value.cells] at hl; simp [hl]

/-- Arguments read again behind a call that wrote nothing of theirs. -/
theorem trodAll_stays {P : Program} (hl : laidOutB P = true) {H : Type} {enc : TypeId × Value → H} {W W' : World} (hb : Below W.heap.size W W') : ∀ (ts : List TypeId) (vs : List Value) (ds : List (DataW H)) (p : List MemPlace),
    (ts.all fun t => P.readableRec t && decide (t < P.types.size)) = true → DataW.TrodAll enc P W 0 (fun _ => true) true ts vs ds p → DataW.TrodAll enc P W' 0 (fun b => decide (b < W.heap.size)) true ts vs ds p
  | [], vs, ds, p, _, h => by
    obtain ⟨rfl, rfl, rfl⟩ := trodAll_nil h
    exact trodAll_mk0
  | t :: ts, vs, ds, p, ha, h => by
    simp only [List.all_cons, Bool.and_eq_true, decide_eq_true_eq] at ha
    obtain ⟨v, vs', d, ds', p', q', rfl, rfl, rfl, h1, h2⟩ := trodAll_cons h
    refine trodAll_cons_mk (Below.trod hl ha.1.1 ha.1.2 h1 hb ?_) (trodAll_stays hl hb ts vs' ds' q' ha.2 h2)
    obtain ⟨m, hm⟩ := h1
    exact DataW.trod_lt m _ _ _ hm

end Go.GX
end

section
/- The laws' arguments read as data: the types of this program. -/
namespace Go.Proofs.Ytndebacmnpghkaa
open Go.GX Go.RowKit
set_option maxRecDepth 100000

theorem laidOut : laidOutB Try.prog = true := by kernel_rfl

theorem reads_int : Reads Try.prog T.t_int Int := Reads.int (by kernel_rfl)
theorem reads_ints : Reads Try.prog T.t_sl_int (List Int) := Reads.slice (e := T.t_int) (by kernel_rfl) (by kernel_rfl) reads_int

variable {H : Type} {enc : TypeId × Value → H} {w : World} {base b0 : Nat} {spare : Nat → Bool} {held : Bool} {r : Reach} {v : Value} {d : DataW H} {p : List MemPlace}

theorem open_L (hv : Value.okWide Try.prog w r b0 T.t_sl_int v) (h : DataW.Trod enc Try.prog w base spare held T.t_sl_int v d p) : ∃ (s : Sl) (l : List Int), v = s.v ∧ R w s l :=
  open_list (e := T.t_int) (by kernel_rfl) reads_ints hv h

theorem reads_intss : Reads Try.prog T.t_sl_sl_int (List (List Int)) := Reads.slice (e := T.t_sl_int) (by kernel_rfl) (by kernel_rfl) reads_ints

end Go.Proofs.Ytndebacmnpghkaa
end

section
/- The least number that is free, and the rounds that drop a colour: DropColour, both sides. -/
namespace Go.Proofs.Ytndebacmnpghkaa
open Go.GX Go.RowKit
set_option maxRecDepth 100000

/-- The least number that is not in a list. -/
def mex (l : List Int) : Nat := ((List.range (l.length + 1)).find? fun (u : Nat) => !l.contains (u : Int)).getD 0

theorem mex_le (l : List Int) : mex l ≤ l.length := by
  unfold mex
  cases h : (List.range (l.length + 1)).find? (fun (u : Nat) => !l.contains (u : Int)) with
  | none => simp
  | some c => have := List.mem_of_find?_eq_some h; simp at this; simp; omega

theorem near_len {n : Net} (hg : Good n) (l : List Int) {v : Nat} (hv : v < n.ends.length) : (nearOf n.ends l v).length ≤ 6 := by
  rw [near_adj, List.length_map, adj_len hg hv]; exact hg.deg hv


/-! ### Dropping -/

def dropAt (E : Ends) (l : List Int) (c : Int) (v : Nat) : Int := if l.getD v 0 = c then mex (nearOf E l v) else l.getD v 0
def dropOf (E : Ends) (l : List Int) (c : Int) : List Int := (List.range l.length).map (dropAt E l c)

theorem dropOf_len (E : Ends) (l : List Int) (c : Int) : (dropOf E l c).length = l.length := by simp [dropOf]

theorem dropAt_I64 {n : Net} (hg : Good n) {l : List Int} (hl : ∀ x ∈ l, I64 x) (hlen : l.length = n.ends.length) (c : Int) : ∀ v < l.length, I64 (dropAt n.ends l c v) := by
  intro v hv
  unfold dropAt
  split
  · have := mex_le (nearOf n.ends l v)
    have := near_len hg l (v := v) (by omega)
    unfold I64; omega
  · simp [hv]; exact hl _ (List.getElem_mem hv)

theorem dropOf_I64 {n : Net} (hg : Good n) {l : List Int} (hl : ∀ x ∈ l, I64 x) (hlen : l.length = n.ends.length) (c : Int) : ∀ x ∈ dropOf n.ends l c, I64 x := by
  intro x hx
  obtain ⟨v, hv, rfl⟩ := List.mem_map.1 hx
  exact dropAt_I64 hg hl hlen c v (by simpa using hv)

structure DropAsked (n : Net) (l : List Int) (c : Int) : Prop where
  good : Good n
  proper : Proper n l
  whole : inR c 0 1000000000000 = true

end Go.Proofs.Ytndebacmnpghkaa
end

section
/- Degrees, greatest numbers, palettes; GreedyReduce, both sides. -/
namespace Go.Proofs.Ytndebacmnpghkaa
open Go.GX Go.RowKit
set_option maxRecDepth 100000

/-! ### The greatest number -/

def most2 (a b : Int) : Int := if a > b then a else b
def mostOf (l : List Int) : Int := l.foldl most2 0

theorem mostOf_spec (l : List Int) : 0 ≤ mostOf l ∧ (∀ x ∈ l, x ≤ mostOf l) ∧ (mostOf l = 0 ∨ mostOf l ∈ l) := by
  unfold mostOf
  have : ∀ (l : List Int) (m : Int), 0 ≤ m → 0 ≤ l.foldl most2 m ∧ m ≤ l.foldl most2 m ∧ (∀ x ∈ l, x ≤ l.foldl most2 m) ∧ (l.foldl most2 m = m ∨ l.foldl most2 m ∈ l) := by
    intro l
    induction l with
    | nil => intro m hm; simp; exact hm
    | cons y r ih =>
      intro m hm
      have hy : m ≤ most2 m y ∧ y ≤ most2 m y ∧ (most2 m y = m ∨ most2 m y = y) := by
        unfold most2; split <;> omega
      obtain ⟨h1, h2, h3, h4⟩ := ih (most2 m y) (by omega)
      rw [List.foldl_cons]
      refine ⟨h1, by omega, fun x hx => ?_, ?_⟩
      · rcases List.mem_cons.1 hx with rfl | hx
        · omega
        · exact h3 x hx
      · rcases h4 with h4 | h4
        · rcases hy.2.2 with h5 | h5
          · left; rw [h4, h5]
          · right; rw [h4, h5]; simp
        · right; exact List.mem_cons_of_mem _ h4
  obtain ⟨h1, _, h3, h4⟩ := this l 0 (by omega)
  exact ⟨h1, h3, h4⟩

theorem l1Most_ok (a b : Int) (w : World) : Calls Try.prog F.s_l1Most #[.int .i64 a, .int .i64 b] w (Ret [.at (.int .i64)] fun (r : Int) w' => r = most2 a b ∧ w = w') := by
  refine C_s_l1Most ?_
  unfold V_s_l1Most most2
  exact cond_dec (fun h => ⟨by rw [if_pos h], rfl⟩) (fun h => ⟨by rw [if_neg h], rfl⟩)

/-! ### Degrees -/

def degsOf (E : Ends) : List Int := E.map fun r => (r.length : Int)

/-! ### What is asked -/

structure PalAsked (n : Net) (l : List Int) (k a : Int) : Prop where
  good : Good n
  pal : 1 ≤ k ∧ k ≤ 1000000000000
  bound : 0 ≤ a ∧ a ≤ 6
  proper : Proper n l
  all : AllIn l 0 (k - 1)
  degs : mostOf (degsOf n.ends) ≤ a

theorem PalAsked.deg {n : Net} {l : List Int} {k a : Int} (h : PalAsked n l k a) {v : Nat} (hv : v < n.ends.length) : (n.ends[v].length : Int) ≤ a := by
  have := (mostOf_spec (degsOf n.ends)).2.1 (n.ends[v].length : Int) (List.mem_map.2 ⟨_, List.getElem_mem hv, rfl⟩)
  have := h.degs
  omega

/-! ### Dropping the greatest colours -/

/-- What a list of colours must be for the rounds. -/
structure ColsOk (n : Net) (a : Int) (l : List Int) : Prop where
  good : Good n
  len : l.length = n.ends.length
  nn : ∀ x ∈ l, 0 ≤ x
  i64 : ∀ x ∈ l, I64 x
  deg : ∀ v, (hv : v < n.ends.length) → (n.ends[v].length : Int) ≤ a

theorem dropOf_mem {n : Net} {a : Int} {l : List Int} (h : ColsOk n a l) {c : Int} : ∀ x ∈ dropOf n.ends l c, (0 ≤ x ∧ x ≤ a) ∨ (x ∈ l ∧ x ≠ c) := fun x hx => by
  obtain ⟨v, hv, rfl⟩ := List.mem_map.1 hx
  have hv' : v < l.length := by simpa using hv
  have hve : v < n.ends.length := by rw [← h.len]; exact hv'
  unfold dropAt
  split
  · left
    have h1 := mex_le (nearOf n.ends l v)
    have h2 : (nearOf n.ends l v).length = n.ends[v].length := by rw [near_adj, List.length_map, adj_len h.good hve]
    have := h.deg v hve
    omega
  · rename_i hne
    right
    simp [hv'] at hne ⊢
    exact hne

theorem ColsOk.drop {n : Net} {a : Int} {l : List Int} (h : ColsOk n a l) (c : Int) : ColsOk n a (dropOf n.ends l c) :=
  ⟨h.good, by rw [dropOf_len]; exact h.len, fun x hx => by
    rcases dropOf_mem h x hx with h1 | h1
    · exact h1.1
    · exact h.nn x h1.1, dropOf_I64 h.good h.i64 h.len c, h.deg⟩

theorem PalAsked.cols {n : Net} {l : List Int} {k a : Int} (h : PalAsked n l k a) (hi : ∀ x ∈ l, I64 x) : ColsOk n a l :=
  ⟨h.good, h.proper.1, fun x hx => (h.all x hx).1, hi, fun v hv => h.deg hv⟩

end Go.Proofs.Ytndebacmnpghkaa
end

section
/- Problems as arguments: read, counted, copied, held against each other, marked. -/
namespace Go.Proofs.Ytndebacmnpghkaa
open Go.GX Go.RowKit
set_option maxRecDepth 100000

structure Prob where
  labels : Int
  degree : Int
  nodes : List (List Int)
  edges : List (List Int)

/-- The slices of a problem read as its configurations. -/
structure RProb (w : World) (c d : Sl) (p : Prob) : Prop where
  labels : I64 p.labels
  degree : I64 p.degree
  nodes : R w c p.nodes
  edges : R w d p.edges

theorem RProb.ext {w w' : World} {c d : Sl} {p : Prob} (h : RProb w c d p) (hE : Ext w w') : RProb w' c d p := ⟨h.labels, h.degree, h.nodes.ext hE, h.edges.ext hE⟩

def SmallP (p : Prob) : Prop := SmallM p.nodes ∧ SmallM p.edges

theorem LD_iiss {w : World} {p : Addr} {t : TypeId} {x y : Int} {z u : Sl} {r : List Value} {K : Int → Int → Sl → Sl → Prop} (hb : Box w p t (.int .i64 x :: .int .i64 y :: z.v :: u.v :: r)) (hk : K x y z u) : LD [.int .i64, .int .i64, .sl, .sl] p w K := by
  refine ⟨[.int .i64 x, .int .i64 y, z.v, u.v], rfl, fun i v hv => ?_, hk⟩
  match i, hv with
  | 0, hv => exact hb.cell (i := 0) hv
  | 1, hv => exact hb.cell (i := 1) hv
  | 2, hv => exact hb.cell (i := 2) hv
  | 3, hv => exact hb.cell (i := 3) hv
  | i + 4, hv => simp at hv
theorem LD_bs3 {w : World} {p : Addr} {t : TypeId} {x : Sl} {v0 v1 v2 : Value} {r : List Value} {K : Sl → Prop} (hb : Box w p t (v0 :: v1 :: v2 :: x.v :: r)) (hk : K x) : LD [.sl] (p.add 3) w K := LD_sl (hb.cell (i := 3) rfl) hk
theorem one4p (x y : Int) (z u : Sl) : ∀ v ∈ [Value.int .i64 x, .int .i64 y, z.v, u.v], v.oneCell' = true := by intro v hv; simp at hv; rcases hv with rfl | rfl | rfl | rfl <;> rfl

theorem szProblem_ok {w : World} {c d : Sl} {p : Prob} (h : RProb w c d p) (left : Int) (h0 : 0 ≤ left) (h1 : left ≤ 1048576) :
    Calls Try.prog F.l_szProblem #[.agg #[.int .i64 p.labels, .int .i64 p.degree, c.v, d.v], .int .i64 left] w (Ret [.at (.int .i64)] fun (x : Int) w' => (0 ≤ x → SmallP p ∧ x ≤ left) ∧ Ext w w') := by
  refine C_l_szProblem ?_
  unfold V_l_szProblem
  refine NEW_intro fun pa w1 hp hs hE hb => LD_bs2 hb ?_
  replace h := h.ext hE
  refine call (szIntSS_ok h.nodes left h0 h1) ?_
  rintro x _ ⟨hx, rfl⟩
  refine cond_dec (fun hn => ⟨fun h => by omega, hE⟩) (fun hnn => LD_bs3 hb ?_)
  obtain ⟨a1, a2, a3⟩ := hx (by omega)
  refine call (szIntSS_ok h.edges x (by omega) (by omega)) ?_
  rintro y _ ⟨hy, rfl⟩
  refine cond_dec (fun hn => ⟨fun h => by omega, hE⟩) (fun hnn2 => ⟨fun _ => ?_, hE⟩)
  obtain ⟨b1, b2, b3⟩ := hy (by omega)
  exact ⟨⟨⟨by omega, fun r hr => by have := a3 r hr; omega⟩, ⟨by omega, fun r hr => by have := b3 r hr; omega⟩⟩, by omega⟩


/-- A problem of the call's own: its lists of configurations lie apart. -/
structure OwnProb (w : World) (lo mid hi : Nat) (z u : Sl) (p : Prob) : Prop where
  nodes : Own2 w lo T.t_int T.t_sl_int z p.nodes
  edges : Own2 w mid T.t_int T.t_sl_int u p.edges
  mnodes : MIntSS w z lo mid
  medges : MIntSS w u mid hi
  lom : lo ≤ mid
  mhi : mid ≤ hi
  top : hi ≤ w.heap.size

theorem OwnProb.ext {w w' : World} {lo mid hi : Nat} {z u : Sl} {p : Prob} (h : OwnProb w lo mid hi z u p) (hE : Ext w w') : OwnProb w' lo mid hi z u p :=
  ⟨h.nodes.ext hE, h.edges.ext hE, h.mnodes.ext hE, h.medges.ext hE, h.lom, h.mhi, Nat.le_trans h.top hE.size_le⟩
theorem OwnProb.prob {w w0 : World} {lo mid hi : Nat} {c d z u : Sl} {p : Prob} (h : OwnProb w lo mid hi z u p) (h0 : RProb w0 c d p) : RProb w z u p :=
  ⟨h0.labels, h0.degree, h.nodes.rep (flat_okII h0.nodes), h.edges.rep (flat_okII h0.edges)⟩

theorem mintss_at {w w' : World} {base : Nat} {s : Sl} {L : List (List Int)} (h : Own2 w base T.t_int T.t_sl_int s L) (hl : L.length ≤ 1048576) (hll : ∀ r ∈ L, r.length ≤ 1048576) (hk : ∀ k, base ≤ k → k < w.heap.size → w'.heap[k]? = w.heap[k]?) {lo : Nat} (hlo : lo ≤ base) : MIntSS w' s lo w.heap.size := by
  obtain ⟨ss, h1, h2, h3⟩ := h
  refine ⟨ss, (h1.keep fun k hb => hk k (h1.blk k hb).1 (h1.blk k hb).2).low hlo, by omega, fun r hr => ?_⟩
  obtain ⟨i, hi, rfl⟩ := List.mem_iff_getElem.1 hr
  have hiL : i < L.length := by omega
  have hO := h3 i ss[i] L[i] (by simp [hi]) (by simp [hiL])
  have hO' : OwnL w' base T.t_int ss[i] L[i] := hO.keep fun k hb => hk k (hO.blk k hb).1 (hO.blk k hb).2
  refine ⟨⟨hO'.wr, by rw [hO.1]; exact hll _ (List.getElem_mem hiL), fun b hb => ?_⟩, fun b hb he => ?_⟩
  · have := hO.blk b (blkOf_own hO hb)
    omega
  · obtain ⟨c1, e1⟩ := hO.type (blkOf_own hO hb)
    obtain ⟨c2, e2⟩ := h1.type he
    rw [e1] at e2
    exact absurd (Obj.cells.inj (Option.some.inj e2)).2.1 (by decide)

theorem toProblem_own {w : World} {c d : Sl} {p : Prob} (h : RProb w c d p) (hs : SmallP p) :
    Calls Try.prog F.l_toProblem #[.agg #[.int .i64 p.labels, .int .i64 p.degree, c.v, d.v]] w (Ret [.agg [.int .i64, .int .i64, .sl, .sl]] fun (x y : Int) (z u : Sl) w' => x = p.labels ∧ y = p.degree ∧ Ext w w' ∧ ∃ mid hi, OwnProb w' w.heap.size mid hi z u p) := by
  refine C_l_toProblem ?_
  unfold V_l_toProblem
  refine NEW_intro fun pa w1 hp1 hs1 hE1 hb1 => ?_
  refine NEW_intro fun px w2 hp2 hs2 hE2 hb2 => ?_
  refine NEW_intro fun po w3 hp3 hs3 hE3 hb3 => ?_
  have ha3 := (hb1.ext hE2).ext hE3
  have hx3 := hb2.ext hE3
  have hE : Ext w w3 := (hE1.trans hE2).trans hE3
  have hlt := hb3.lt
  refine LD_bi0 ha3 ?_
  refine ST_box1 hb3 (by simp) rfl fun w4 hz4 hk4 hX4 hb4 => ?_
  have hE4 := hX4 _ hE (by omega)
  have ha4 := ha3.of_block (hk4 _ (by omega))
  have hx4 := hx3.of_block (hk4 _ (by omega))
  refine LD_bi1 ha4 ?_
  refine ST_box1 hb4 (by simp) rfl fun w5 hz5 hk5 hX5 hb5 => ?_
  have hE5 := hX5 _ hE4 (by omega)
  have ha5 := ha4.of_block (hk5 _ (by omega))
  have hx5 := hx4.of_block (hk5 _ (by omega))
  refine LD_bs2 ha5 ?_
  refine call (toIntSS_own (h.nodes.ext hE5) hs.1.1 hs.1.2) ?_
  rintro z w6 ⟨hE6, hz⟩
  have hlt5 := hb5.lt
  refine ST_box1 (hb5.ext hE6) (by simp) rfl fun w7 hz7 hk7 hX7 hb7 => ?_
  have hE7 := hX7 _ (hE5.trans hE6) (by omega)
  have ha7 := (ha5.ext hE6).of_block (hk7 _ (by omega))
  have hx7 := (hx5.ext hE6).of_block (hk7 _ (by omega))
  have hz' : Own2 w7 w5.heap.size T.t_int T.t_sl_int z p.nodes := hz.keep fun b hb _ => hk7 b (by omega)
  refine LD_bs3 ha7 ?_
  refine call (toIntSS_own (h.edges.ext hE7) hs.2.1 hs.2.2) ?_
  rintro u w8 ⟨hE8, hu⟩
  have hlt7 := hb7.lt
  have hsz6 := hE6.size_le
  have hsz8 := hE8.size_le
  refine ST_box1 (hb7.ext hE8) (by simp) rfl fun w9 hz9 hk9 hX9 hb9 => ?_
  have hE9 := hX9 _ (hE7.trans hE8) (by omega)
  have hx9 := (hx7.ext hE8).of_block (hk9 _ (by omega))
  have hz9' : Own2 w9 w5.heap.size T.t_int T.t_sl_int z p.nodes := (hz'.ext hE8).keep fun b hb _ => hk9 b (by omega)
  have hu9 : Own2 w9 w7.heap.size T.t_int T.t_sl_int u p.edges := hu.keep fun b hb _ => hk9 b (by omega)
  refine LD_iiss hb9 ?_
  refine ST_all hx9 (one4p _ _ _ _) rfl fun w10 hs10 hz10 hb10 => ?_
  have hsz5 : w.heap.size ≤ w5.heap.size := by have := hE.size_le; omega
  have hpx : px.block < w3.heap.size := hx3.lt
  have hz10' : Own2 w10 w5.heap.size T.t_int T.t_sl_int z p.nodes := hz9'.keep fun b hb h2 => hs10.block b h2 (by intro he; cases he; omega)
  have hu10 : Own2 w10 w7.heap.size T.t_int T.t_sl_int u p.edges := hu9.keep fun b hb h2 => hs10.block b h2 (by intro he; cases he; omega)
  have hmzl : MIntSS w10 z w.heap.size w7.heap.size := mintss_at hz' hs.1.1 hs.1.2 (fun k hk1 hk2 => by
    rw [hs10.block k (by omega) (by intro he; cases he; omega), hk9 k (by omega), hE8.block k hk2]) hsz5
  exact LD_iiss hb10 ⟨rfl, rfl, hs10.ext0 hE9 (fun k hk => by cases hk; omega), w7.heap.size, w10.heap.size, hz10'.low hsz5, hu10, hmzl, mintss_of hu10 hs.2.1 hs.2.2, by omega, by omega, Nat.le_refl _⟩

theorem toProblem_ok {w : World} {c d : Sl} {p : Prob} (h : RProb w c d p) (hs : SmallP p) :
    Calls Try.prog F.l_toProblem #[.agg #[.int .i64 p.labels, .int .i64 p.degree, c.v, d.v]] w (Ret [.agg [.int .i64, .int .i64, .sl, .sl]] fun (x y : Int) (z u : Sl) w' => x = p.labels ∧ y = p.degree ∧ Ext w w' ∧ RProb w' z u p) :=
  call (toProblem_own h hs) fun _ _ _ _ _ ⟨h1, h2, h3, _, _, h4⟩ => ⟨h1, h2, h3, h4.prob h⟩

theorem eqProblem_ok {w : World} {c d x y : Sl} {p : Prob} (h : RProb w c d p) (h' : RProb w x y p) :
    Calls Try.prog F.l_eqProblem #[.agg #[.int .i64 p.labels, .int .i64 p.degree, c.v, d.v], .agg #[.int .i64 p.labels, .int .i64 p.degree, x.v, y.v]] w (Ret [.at .bool] fun (r : Bool) w' => r = true ∧ Ext w w') := by
  refine C_l_eqProblem ?_
  unfold V_l_eqProblem
  refine NEW_intro fun pa w1 hp1 hs1 hE1 hb1 => ?_
  refine NEW_intro fun pb w2 hp2 hs2 hE2 hb2 => ?_
  have ha := hb1.ext hE2
  have hE := hE1.trans hE2
  refine LD_bi0 ha (LD_bi0 hb2 (cond_ne (fun h => absurd rfl h) (fun _ => LD_bi1 ha (LD_bi1 hb2 (cond_ne (fun h => absurd rfl h) (fun _ => LD_bs2 ha (LD_bs2 hb2 ?_)))))))
  refine call (eqIntSS_ok (h.nodes.ext hE) (h'.nodes.ext hE)) ?_
  rintro _ w3 ⟨rfl, hE3⟩
  refine cond_f (by simp) (LD_bs3 (ha.ext hE3) (LD_bs3 (hb2.ext hE3) ?_))
  refine call (eqIntSS_ok (h.edges.ext (hE.trans hE3)) (h'.edges.ext (hE.trans hE3))) ?_
  rintro _ w4 ⟨rfl, hE4⟩
  exact cond_f (by simp) ⟨rfl, (hE.trans hE3).trans hE4⟩

theorem markProblem_ok {w : World} {lo mid hi : Nat} {z u : Sl} {x y : Int} (h1 : MIntSS w z lo mid) (h2 : MIntSS w u mid hi) (hlm : lo ≤ mid) (hmh : mid ≤ hi) (ht : hi ≤ w.heap.size) (k : Int) (hk0 : 0 ≤ k) (hk : k ≤ 112589990684262400) :
    Calls Try.prog F.l_markProblem #[.agg #[.int .i64 x, .int .i64 y, z.v, u.v], .int .i64 k] w (Ret [.at (.int .i64)] fun (r : Int) w' => 0 ≤ r ∧ r ≤ k + 2199023255552 ∧ Shp w w' ∧ Chg w w' (fun b => lo ≤ b ∧ b < hi)) := by
  refine C_l_markProblem ?_
  unfold V_l_markProblem
  refine NEW_intro fun p w1 hp hs hE hb => LD_bs2 hb ?_
  refine call (markIntSS_ok (h1.ext hE) k hk0 (by omega)) ?_
  rintro r1 w2 ⟨ha, hb2, hS, hC⟩
  have hbx := hb.chg hC (by rw [hp]; intro hh; omega)
  refine LD_bs3 hbx ?_
  refine call (markIntSS_ok ((h2.ext hE).chg hS hC (Nat.le_refl _)) r1 ha (by omega)) ?_
  rintro r2 w3 ⟨hc, hc2, hS2, hC2⟩
  exact ⟨hc, by omega, (Shp.ext hE).trans (hS.trans hS2), (Chg.of_ext hE).trans ((hC.mono fun b hb => ⟨hb.1, by omega⟩).trans (hC2.mono fun b hb => ⟨by omega, hb.2⟩))⟩

variable {H : Type} {enc : TypeId × Value → H} {w : World} {base b0 : Nat} {spare : Nat → Bool} {held : Bool} {r : Reach} {v : Value} {d : DataW H} {p : List MemPlace}

theorem open_P (hv : Value.okWide Try.prog w r b0 T.t_l_Problem v) (h : DataW.Trod enc Try.prog w base spare held T.t_l_Problem v d p) : ∃ (c e : Sl) (q : Prob), v = .agg #[.int .i64 q.labels, .int .i64 q.degree, c.v, e.v] ∧ RProb w c e q := by
  obtain ⟨a, b, c, e, y, z, rfl, h0, h1, h2, h3⟩ := open_problem (u0 := T.t_int) (u1 := T.t_int) (u2 := T.t_sl_sl_int) (u3 := T.t_sl_sl_int) (by kernel_rfl) reads_int reads_int reads_intss reads_intss hv h
  exact ⟨c, e, ⟨a, b, y, z⟩, rfl, h0, h1, h2, h3⟩

/-! ### What is asked of a problem -/

structure PGood (p : Prob) : Prop where
  lab : 1 ≤ p.labels ∧ p.labels ≤ 8
  deg : 1 ≤ p.degree ∧ p.degree ≤ 4
  nodes : ConfOk p.nodes p.degree p.labels
  edges : ConfOk p.edges 2 p.labels

theorem IsProblem_ok {w : World} {c d : Sl} {p : Prob} (h : RProb w c d p) :
    Calls Try.prog F.i_IsProblem #[.agg #[.int .i64 p.labels, .int .i64 p.degree, c.v, d.v]] w (Ret [.at .bool] fun (x : Bool) w' => (x = true ↔ PGood p) ∧ Ext w w') := by
  refine C_i_IsProblem ?_
  unfold V_i_IsProblem
  refine NEW_intro fun pa w1 hp hs hE hb => LD_bi0 hb ?_
  replace h := h.ext hE
  have hno : ∀ {w' : World}, Ext w w' → ¬ PGood p → (false = true ↔ PGood p) ∧ Ext w w' := fun h1 h2 => ⟨by simp [h2], h1⟩
  refine call (within_ok _ _ _ _) ?_
  rintro _ _ ⟨rfl, rfl⟩
  refine cond_b (fun ht => LD_bi1 hb ?_) (fun hf => hno hE fun hg => inR_false hf hg.lab)
  have hlab := inR_true ht
  refine call (within_ok _ _ _ _) ?_
  rintro _ _ ⟨rfl, rfl⟩
  refine cond_b (fun ht2 => LD_bs2 hb (LD_bi1 hb (LD_bi0 hb ?_))) (fun hf => hno hE fun hg => inR_false hf hg.deg)
  have hdeg := inR_true ht2
  refine call (configurationsOk_ok h.nodes hlab) ?_
  rintro y w4 ⟨hy, hE4⟩
  replace hE := hE.ext hE4
  replace h := h.ext hE4
  replace hb := hb.ext hE4
  refine cond_b (fun ht3 => LD_bs3 hb (LD_bi0 hb ?_)) (fun hf => hno hE fun hg => by rw [hy.2 hg.nodes] at hf; cases hf)
  refine call (configurationsOk_ok h.edges hlab) ?_
  rintro z w5 ⟨hz, hE5⟩
  exact ⟨⟨fun ht4 => ⟨hlab, hdeg, hy.1 ht3, hz.1 ht4⟩, fun hg => hz.2 hg.edges⟩, hE.trans hE5⟩


theorem prGood_ok {w : World} {c d : Sl} {p : Prob} (h : RProb w c d p) :
    Calls Try.prog F.s_prGood #[.agg #[.int .i64 p.labels, .int .i64 p.degree, c.v, d.v]] w (Ret [.at .bool] fun (x : Bool) w' => (x = true ↔ PGood p) ∧ Ext w w') := by
  refine C_s_prGood ?_
  unfold V_s_prGood
  refine NEW_intro fun pa w1 hp hs hE hb => LD_bi0 hb ?_
  replace h := h.ext hE
  have hno : ∀ {w' : World}, Ext w w' → ¬ PGood p → (false = true ↔ PGood p) ∧ Ext w w' := fun h1 h2 => ⟨by simp [h2], h1⟩
  refine call (l1In_ok _ _ _ _) ?_
  rintro _ _ ⟨rfl, rfl⟩
  refine cond_b (fun ht => LD_bi1 hb ?_) (fun hf => hno hE fun hg => inR_false hf hg.lab)
  have hlab := inR_true ht
  refine call (l1In_ok _ _ _ _) ?_
  rintro _ _ ⟨rfl, rfl⟩
  refine cond_b (fun ht2 => LD_bs2 hb (LD_bi1 hb (LD_bi0 hb ?_))) (fun hf => hno hE fun hg => inR_false hf hg.deg)
  have hdeg := inR_true ht2
  refine call (prLists_ok h.nodes hlab) ?_
  rintro y w4 ⟨hy, hE4⟩
  replace hE := hE.ext hE4
  replace h := h.ext hE4
  replace hb := hb.ext hE4
  refine cond_b (fun ht3 => LD_bs3 hb (LD_bi0 hb ?_)) (fun hf => hno hE fun hg => by rw [hy.2 hg.nodes] at hf; cases hf)
  refine call (prLists_ok h.edges hlab) ?_
  rintro z w5 ⟨hz, hE5⟩
  exact ⟨⟨fun ht4 => ⟨hlab, hdeg, hy.1 ht3, hz.1 ht4⟩, fun hg => hz.2 hg.edges⟩, hE.trans hE5⟩


/-! ### Configurations that are allowed -/

def NodeOk (p : Prob) (l : List Int) : Prop := sortI l ∈ p.nodes
def EdgeIs (p : Prob) (a b : Int) : Prop := sortI [a, b] ∈ p.edges

theorem sort2 (a b : Int) : sortI [a, b] = if a ≤ b then [a, b] else [b, a] := by
  have hp := sortI_perm [a, b]
  have hs := sortI_sorted [a, b]
  refine (hp.trans ?_).eq_of_pairwise (fun a b _ _ h1 h2 => Int.le_antisymm h1 h2) hs ?_
  · split
    · exact List.Perm.refl _
    · exact List.Perm.swap _ _ _
  · split
    · simp; omega
    · simp; omega

theorem node_ok {w : World} {c d t : Sl} {p : Prob} {l : List Int} (h : RProb w c d p) (hs : SmallP p) (hg : PGood p) (hl : R w t l) (hll : l.length ≤ 1048576) :
    Calls Try.prog F.i_Problem_node #[.agg #[.int .i64 p.labels, .int .i64 p.degree, c.v, d.v], t.v] w (Ret [.at .bool] fun (x : Bool) w' => (x = true ↔ NodeOk p l) ∧ Ext w w') := by
  refine C_i_Problem_node ?_
  unfold V_i_Problem_node
  refine NEW_intro fun pa w1 hp hs1 hE hb => LD_bs2 hb ?_
  replace h := h.ext hE
  replace hl := hl.ext hE
  refine call (hasConfiguration_ok h.nodes hl hg.nodes.lt hs.1.1 hll) ?_
  rintro x w2 ⟨rfl, hE2⟩
  exact ⟨by simp [NodeOk], hE.trans hE2⟩

theorem edge_ok {w : World} {c d : Sl} {p : Prob} {a b : Int} (h : RProb w c d p) (hs : SmallP p) (hg : PGood p) (ha : I64 a) (hb0 : I64 b) :
    Calls Try.prog F.i_Problem_edge #[.agg #[.int .i64 p.labels, .int .i64 p.degree, c.v, d.v], .int .i64 a, .int .i64 b] w (Ret [.at .bool] fun (x : Bool) w' => (x = true ↔ EdgeIs p a b) ∧ Ext w w') := by
  refine C_i_Problem_edge ?_
  unfold V_i_Problem_edge
  refine NEW_intro fun pa w1 hp hs1 hE hb => LD_bs3 hb ?_
  replace h := h.ext hE
  refine RUN_lits slt_int [a, b] (by simp) (by simp) rfl rfl fun r w2 hE2 hO2 => ?_
  have hE12 := hE.trans hE2
  refine call (hasConfiguration_ok (h.edges.ext hE2) (hO2.rep (by intro x hx; simp at hx; rcases hx with rfl | rfl <;> assumption)).any hg.edges.lt hs.2.1 (by simp)) ?_
  rintro x w3 ⟨rfl, hE3⟩
  exact ⟨by simp [EdgeIs], hE12.trans hE3⟩

theorem prNode_ok {w : World} {c d t : Sl} {p : Prob} {l : List Int} (h : RProb w c d p) (hl : R w t l) (hll : l.length ≤ 1048576) :
    Calls Try.prog F.s_prNode #[.agg #[.int .i64 p.labels, .int .i64 p.degree, c.v, d.v], t.v] w (Ret [.at .bool] fun (x : Bool) w' => (x = true ↔ NodeOk p l) ∧ Ext w w') := by
  refine C_s_prNode ?_
  unfold V_s_prNode
  refine NEW_intro fun pa w1 hp hs1 hE hb => ?_
  intro w2 hE2 _
  have hE12 := hE.trans hE2
  refine LD_bs2 (hb.ext hE2) ⟨Ext.refl _, ?_⟩
  refine call (prSorted_ok (hl.ext hE12) hll) ?_
  rintro r w3 ⟨hE3, hO3⟩
  refine ⟨hE3, ?_⟩
  refine call (prHas_ok (h.nodes.ext (hE12.trans hE3)) (hO3.rep (sortI_I64 (flat_ok hl))).any) ?_
  rintro x w4 ⟨rfl, hE4⟩
  exact ⟨hE3.trans hE4, by simp [NodeOk], hE12.trans (hE3.trans hE4)⟩

theorem l1Least_ok (a b : Int) (w : World) : Calls Try.prog F.s_l1Least #[.int .i64 a, .int .i64 b] w (Ret [.at (.int .i64)] fun (r : Int) w' => r = (if a < b then a else b) ∧ w = w') := by
  refine C_s_l1Least ?_
  unfold V_s_l1Least
  exact cond_dec (fun h => ⟨by rw [if_pos h], rfl⟩) (fun h => ⟨by rw [if_neg h], rfl⟩)

theorem most2b (a b : Int) : sortI [a, b] = [if a < b then a else b, most2 a b] := by
  rw [sort2]
  unfold most2
  by_cases h1 : a < b
  · rw [if_pos (by omega), if_pos h1, if_neg (by omega)]
  · by_cases h2 : a = b
    · subst h2; simp
    · rw [if_neg (by omega), if_neg h1, if_pos (by omega)]

theorem prEdge_ok {w : World} {c d : Sl} {p : Prob} {a b : Int} (h : RProb w c d p) (ha : I64 a) (hb0 : I64 b) :
    Calls Try.prog F.s_prEdge #[.agg #[.int .i64 p.labels, .int .i64 p.degree, c.v, d.v], .int .i64 a, .int .i64 b] w (Ret [.at .bool] fun (x : Bool) w' => (x = true ↔ EdgeIs p a b) ∧ Ext w w') := by
  refine C_s_prEdge ?_
  unfold V_s_prEdge
  refine NEW_intro fun pa w1 hp hs1 hE hb => ?_
  intro w2 hE2 _
  have hE12 := hE.trans hE2
  refine LD_bs3 (hb.ext hE2) ?_
  refine call (l1Least_ok _ _ _) ?_
  rintro _ _ ⟨rfl, rfl⟩
  refine ⟨Ext.refl _, call (l1Most_ok _ _ _) ?_⟩
  rintro _ _ ⟨rfl, rfl⟩
  refine ⟨Ext.refl _, ?_⟩
  have hs2 := most2b a b
  refine RUN_lits slt_int [if a < b then a else b, most2 a b] (by simp) (by simp) rfl rfl fun r w5 hE5 hO5 => ⟨hE5, ?_⟩
  rw [← hs2] at hO5
  have hok : ∀ x ∈ sortI [a, b], I64 x := sortI_I64 (by intro x hx; simp at hx; rcases hx with rfl | rfl <;> assumption)
  refine call (prHas_ok (h.edges.ext (hE12.trans hE5)) (hO5.rep hok).any) ?_
  rintro x w6 ⟨rfl, hE6⟩
  exact ⟨hE5.trans hE6, by simp [EdgeIs], hE12.trans (hE5.trans hE6)⟩

end Go.Proofs.Ytndebacmnpghkaa
end

section
/- Colourings of edges, on both sides. -/
namespace Go.Proofs.Ytndebacmnpghkaa
open Go.GX Go.RowKit
set_option maxRecDepth 100000

def at2 (l : List (List Int)) (v i : Nat) : Int := (l.getD v []).getD i 0

/-- As many rows as nodes, each as long as the node has ports. -/
def SameRows (E : List (List (Int × Int))) (l : List (List Int)) : Prop := l.length = E.length ∧ ∀ v < l.length, (l.getD v []).length = (E.getD v []).length

def EdgeAt (E : List (List (Int × Int))) (l : List (List Int)) (v i : Nat) : Prop :=
  at2 l ((E.getD v []).getD i (0, 0)).1.toNat ((E.getD v []).getD i (0, 0)).2.toNat = at2 l v i

structure EdgeOk (E : List (List (Int × Int))) (l : List (List Int)) : Prop where
  rows : SameRows E l
  cols : ∀ v < l.length, AllIn (l.getD v []) 0 1000000000000 ∧ (l.getD v []).Nodup
  ends : ∀ v < l.length, ∀ i < (E.getD v []).length, EdgeAt E l v i

theorem rowD {α : Type} {l : List (List α)} {v : Nat} (hv : v < l.length) : l.getD v [] = l[v] := by
  rw [List.getD_eq_getElem?_getD, List.getElem?_eq_getElem hv]; rfl
end Go.Proofs.Ytndebacmnpghkaa
end

section
/- Faults of labelings, in plain words: no program in sight. -/
namespace Go.Proofs.Ytndebacmnpghkaa

def NodeBad (p : Prob) (L : List (List Int)) (v : Nat) : Prop := ((L.getD v []).length : Int) = p.degree ∧ ¬ NodeOk p (L.getD v [])
def endOf (E : Ends) (v k : Nat) : Int × Int := (E.getD v []).getD k (0, 0)
def PortBad (p : Prob) (E : Ends) (L : List (List Int)) (v k : Nat) : Prop := k < (E.getD v []).length ∧ isFirst v k (endOf E v k) = true ∧ ¬ EdgeIs p (at2 L v k) (at2 L (endOf E v k).1.toNat (endOf E v k).2.toNat)
def NoneAt (p : Prob) (E : Ends) (L : List (List Int)) (v : Nat) : Prop := ¬ NodeBad p L v ∧ ∀ k, ¬ PortBad p E L v k
def Clean (p : Prob) (E : Ends) (L : List (List Int)) : Prop := ∀ v < E.length, NoneAt p E L v
def FirstAt (p : Prob) (E : Ends) (L : List (List Int)) (v i : Int) : Prop := ∃ m : Nat, v = m ∧ m < E.length ∧ (∀ u < m, NoneAt p E L u) ∧
  ((i = -1 ∧ NodeBad p L m) ∨ ∃ k : Nat, i = k ∧ ¬ NodeBad p L m ∧ PortBad p E L m k ∧ ∀ j < k, ¬ PortBad p E L m j)

theorem FirstAt.bad {p : Prob} {E : Ends} {L : List (List Int)} {v i : Int} (h : FirstAt p E L v i) : ¬ Clean p E L := fun hc => by
  obtain ⟨m, _, hm, _, h⟩ := h
  obtain ⟨h1, h2⟩ := hc m hm
  rcases h with ⟨_, h⟩ | ⟨k, _, _, h, _⟩
  · exact h1 h
  · exact h2 k h

theorem FirstAt.eq {p : Prob} {E : Ends} {L : List (List Int)} {v i v' i' : Int} (h : FirstAt p E L v i) (h' : FirstAt p E L v' i') : v = v' ∧ i = i' := by
  obtain ⟨m, rfl, hm, hn, hb⟩ := h
  obtain ⟨m', rfl, hm', hn', hb'⟩ := h'
  have key : ∀ {m : Nat} {i : Int}, NoneAt p E L m → ((i = -1 ∧ NodeBad p L m) ∨ ∃ k : Nat, i = k ∧ ¬ NodeBad p L m ∧ PortBad p E L m k ∧ ∀ j < k, ¬ PortBad p E L m j) → False := by
    rintro m i ⟨h1, h2⟩ (⟨_, h⟩ | ⟨k, _, _, h, _⟩)
    · exact h1 h
    · exact h2 k h
  rcases Nat.lt_trichotomy m m' with hlt | heq | hgt
  · exact (key (hn' m hlt) hb).elim
  · subst heq
    refine ⟨rfl, ?_⟩
    rcases hb with ⟨rfl, h1⟩ | ⟨k, rfl, h1, h2, h3⟩
    · rcases hb' with ⟨rfl, _⟩ | ⟨k', rfl, h1', _⟩
      · rfl
      · exact absurd h1 h1'
    · rcases hb' with ⟨rfl, h1'⟩ | ⟨k', rfl, _, h2', h3'⟩
      · exact absurd h1' h1
      · rcases Nat.lt_trichotomy k k' with hlt | heq | hgt
        · exact absurd h2 (h3' k hlt)
        · rw [heq]
        · exact absurd h2' (h3 k' hgt)
  · exact (key (hn m' hgt) hb').elim

/-- What is asked of a labeling. -/
structure LabOk (p : Prob) (E : Ends) (L : List (List Int)) : Prop where
  rows : SameRows E L
  labs : ∀ r ∈ L, AllIn r 0 (p.labels - 1)

structure SolAsked (p : Prob) (n : Net) (L : List (List Int)) : Prop where
  prob : PGood p
  good : Good n
  lab : LabOk p n.ends L

structure AnsFF (p : Prob) (n : Net) (L : List (List Int)) (v i : Int) (b : Bool) : Prop where
  ok : b = true ↔ SolAsked p n L ∧ ¬ Clean p n.ends L
  yes : b = true → FirstAt p n.ends L v i
  no : b = false → v = 0 ∧ i = 0

theorem AnsFF.eq {p : Prob} {n : Net} {L : List (List Int)} {v i v' i' : Int} {b b' : Bool} (h : AnsFF p n L v i b) (h' : AnsFF p n L v' i' b') : v = v' ∧ i = i' ∧ b = b' := by
  have hoo : b = b' := by rw [Bool.eq_iff_iff, h.ok, h'.ok]
  subst hoo
  cases b with
  | false =>
    obtain ⟨rfl, rfl⟩ := h.no rfl
    obtain ⟨rfl, rfl⟩ := h'.no rfl
    exact ⟨rfl, rfl, rfl⟩
  | true =>
    obtain ⟨rfl, rfl⟩ := (h.yes rfl).eq (h'.yes rfl)
    exact ⟨rfl, rfl, rfl⟩

theorem AnsFF.none {p : Prob} {n : Net} {L : List (List Int)} (h : ¬ (SolAsked p n L ∧ ¬ Clean p n.ends L)) : AnsFF p n L 0 0 false := ⟨by simp only [Bool.false_eq_true, false_iff]; exact h, fun hh => (by cases hh), fun _ => ⟨rfl, rfl⟩⟩

end Go.Proofs.Ytndebacmnpghkaa
end

section
/- Labelings and their first faults, both sides. -/
namespace Go.Proofs.Ytndebacmnpghkaa
open Go.GX Go.RowKit
set_option maxRecDepth 100000

def edgeB (p : Prob) (a b : Int) : Bool := decide (sortI [a, b] ∈ p.edges)
theorem edgeB_iff {p : Prob} {a b : Int} : edgeB p a b = true ↔ EdgeIs p a b := by simp [edgeB, EdgeIs]
theorem hasLabels_ok {w : World} {c d t : Sl} {p : Prob} {l : List Int} (hg : 1 ≤ p.labels ∧ p.labels ≤ 8) (hl : R w t l) :
    Calls Try.prog F.i_Problem_hasLabels #[.agg #[.int .i64 p.labels, .int .i64 p.degree, c.v, d.v], t.v] w (Ret [.at .bool] fun (x : Bool) w' => (x = true ↔ AllIn l 0 (p.labels - 1)) ∧ Ext w w') := by
  refine C_i_Problem_hasLabels ?_
  unfold V_i_Problem_hasLabels
  refine NEW_intro fun pa w1 hp hs1 hE hb => LD_bi0 hb ?_
  rw [wrap_of (n := p.labels - 1) (by omega) (by omega)]
  refine call (allWithin_ok (hl.ext hE) 0 (p.labels - 1)) ?_
  rintro x w2 ⟨hx, hE2⟩
  exact ⟨hx, hE.trans hE2⟩

/-! ### The first fault -/

structure FaultIn (p : Prob) (n : Net) (L : List (List Int)) : Prop where
  prob : PGood p
  good : Good n
  lab : LabOk p n.ends L

theorem SolAsked.fin {p : Prob} {n : Net} {L : List (List Int)} (h : SolAsked p n L) : FaultIn p n L := ⟨h.prob, h.good, h.lab⟩

theorem FaultIn.row {p : Prob} {n : Net} {L : List (List Int)} (h : FaultIn p n L) {v : Nat} (hv : v < L.length) (hve : v < n.ends.length) : L[v].length = n.ends[v].length ∧ (∀ x ∈ L[v], I64 x) ∧ L[v].length ≤ 6 := by
  have h1 := h.lab.rows.2 v hv
  rw [rowD hv, rowD hve] at h1
  have h2 := h.good.deg hve
  refine ⟨h1, fun x hx => ?_, by omega⟩
  have := h.lab.labs _ (List.getElem_mem hv) x hx
  have := h.prob.lab
  unfold I64; omega

/-! ### The statements' answers -/

end Go.Proofs.Ytndebacmnpghkaa
end

section
/- The first two places of a list whose labels may not stand beside each other: in plain words, and the reference's search. -/
namespace Go.Proofs.Ytndebacmnpghkaa
open Go.GX Go.RowKit
set_option maxRecDepth 100000

theorem get_at {l : List Int} {i : Nat} (hi : i < l.length) : l.getD i 0 = l[i] := by simp [hi]

theorem range_first {α : Type} {n m : Nat} {f : Nat → Option α} {h : α} (hm : m < n) (hn : ∀ b, b < m → f b = none) (hh : f m = some h) : (List.range n).findSome? f = some h := by
  obtain ⟨k, rfl⟩ : ∃ k, n = m + (k + 1) := ⟨n - m - 1, by omega⟩
  rw [List.range_add, List.findSome?_append]
  have h2 : (List.range m).findSome? f = none := by
    rw [List.findSome?_eq_none_iff]
    intro b hb
    exact hn b (List.mem_range.1 hb)
  rw [h2, Option.none_or, List.range_succ_eq_map, List.map_cons, List.findSome?_cons, Nat.add_zero, hh]
theorem range_none {α : Type} {n : Nat} {f : Nat → Option α} (hn : ∀ b, b < n → f b = none) : (List.range n).findSome? f = none := by
  rw [List.findSome?_eq_none_iff]
  intro b hb
  exact hn b (List.mem_range.1 hb)

/-- The first two places of a list whose labels may not stand beside each other. -/
def badIx (p : Prob) (x : List Int) : Option (Nat × Nat) := (List.range x.length).findSome? fun i => (List.range x.length).findSome? fun j => if edgeB p (x.getD i 0) (x.getD j 0) = true then none else some (i, j)

theorem badIx_hit {p : Prob} {x : List Int} {i j : Nat} (hi : i < x.length) (hj : j < x.length) (h1 : ∀ u, u < i → ∀ v, v < x.length → edgeB p (x.getD u 0) (x.getD v 0) = true) (h2 : ∀ v, v < j → edgeB p (x.getD i 0) (x.getD v 0) = true) (h3 : edgeB p (x.getD i 0) (x.getD j 0) = false) : badIx p x = some (i, j) := by
  refine range_first hi (fun u hu => range_none fun v hv => if_pos (h1 u hu v hv)) (range_first hj (fun v hv => if_pos (h2 v hv)) ?_)
  rw [h3]; rfl
theorem badIx_no {p : Prob} {x : List Int} (h1 : ∀ u, u < x.length → ∀ v, v < x.length → edgeB p (x.getD u 0) (x.getD v 0) = true) : badIx p x = none :=
  range_none fun u hu => range_none fun v hv => if_pos (h1 u hu v hv)

theorem badIx_some {p : Prob} {x : List Int} {i j : Nat} (h : badIx p x = some (i, j)) : i < x.length ∧ j < x.length := by
  obtain ⟨u, hu, h1⟩ := List.exists_of_findSome?_eq_some h
  obtain ⟨v, hv, h2⟩ := List.exists_of_findSome?_eq_some h1
  have h3 := List.mem_range.1 hu
  have h4 := List.mem_range.1 hv
  by_cases he : edgeB p (x.getD u 0) (x.getD v 0) = true
  · rw [if_pos he] at h2; cases h2
  · rw [if_neg he] at h2; cases h2; exact ⟨h3, h4⟩

theorem edgeB_comm (p : Prob) (a b : Int) : edgeB p a b = edgeB p b a := by
  unfold edgeB
  rw [sort2, sort2]
  by_cases h1 : a ≤ b
  · by_cases h2 : b ≤ a
    · have : a = b := by omega
      subst this; rfl
    · rw [if_pos h1, if_neg h2]
  · rw [if_neg h1, if_pos (by omega)]

theorem zeBad_ok {w : World} {c d s t : Sl} {p : Prob} {x : List Int} (h : RProb w c d p) (hx : R w s x) (hy : R w t x) :
    Calls Try.prog F.s_zeBad #[.agg #[.int .i64 p.labels, .int .i64 p.degree, c.v, d.v], s.v, t.v] w (Ret [.at (.int .i64), .at (.int .i64), .at .bool] fun (i : Int) (j : Int) (b : Bool) w' => Ext w w' ∧ match badIx p x with | some q => b = true ∧ i = q.1 ∧ j = q.2 | none => b = false) := by
  refine C_s_zeBad ?_
  unfold V_s_zeBad
  refine NEW_intro fun pp w1 hp1 hs1 hE1 hb1 => ?_
  replace h := h.ext hE1
  replace hx := hx.ext hE1
  replace hy := hy.ext hE1
  have h64 := flat_ok hx
  rw [hx.len, hy.len]
  refine ⟨IN x.length fun i w' => Ext w1 w' ∧ ∀ u, u < i → ∀ v, v < x.length → edgeB p (x.getD u 0) (x.getD v 0) = true, MN x.length, IN_zero ⟨Ext.refl _, fun u hu => absurd hu (by omega)⟩, ?_⟩
  rintro _ w2 ⟨i, rfl, hi, hE2, hI⟩
  intros
  refine cond_dec (fun hlt => ?_) (fun hge => ⟨hE1.trans hE2, ?_⟩)
  · have hi' : i < x.length := by omega
    refine (hx.ext hE2).ixI hi' fun q _ hc => LD_int hc ?_
    refine ⟨IN x.length fun j w' => Ext w1 w' ∧ ∀ v, v < j → edgeB p x[i] (x.getD v 0) = true, MN x.length, IN_zero ⟨hE2, fun v hv => absurd hv (by omega)⟩, ?_⟩
    rintro _ w3 ⟨j, rfl, hj, hE3, hJ⟩
    intros
    refine cond_dec (fun hlt2 => ?_) (fun hge2 => ?_)
    · have hj' : j < x.length := by omega
      refine (hy.ext hE3).ixI hj' fun q _ hc => LD_int hc (LD_iiss (hb1.ext hE3) ?_)
      refine call (prEdge_ok (h.ext hE3) (h64 _ (List.getElem_mem hi')) (h64 _ (List.getElem_mem hj'))) ?_
      rintro y w4 ⟨hy4, hE4⟩
      have ex : y = edgeB p x[i] x[j] := by rw [Bool.eq_iff_iff, hy4, edgeB_iff]
      subst ex
      refine cond_not (fun hf => ⟨hE1.trans (hE3.trans hE4), ?_⟩) (fun ht => IN_next hx.le hj' ⟨hE3.trans hE4, fun v hv => ?_⟩)
      · rw [badIx_hit hi' hj' hI (fun v hv => by rw [get_at hi']; exact hJ v hv) (by rw [get_at hi', get_at hj']; exact hf)]
        exact ⟨rfl, rfl, rfl⟩
      · by_cases hvj : v = j
        · subst hvj; rw [get_at hj']; exact ht
        · exact hJ v (by omega)
    · refine IN_next hx.le hi' ⟨hE3, fun u hu v hv => ?_⟩
      by_cases hui : u = i
      · subst hui; rw [get_at hi']; exact hJ v (by omega)
      · exact hI u (by omega) v hv
  · rw [badIx_no fun u hu v hv => hI u (by omega) v hv]

end Go.Proofs.Ytndebacmnpghkaa
end

section
/- slices.Concat at []int (with slices.Grow): the lists one behind the other, in memory of the call's own. -/
namespace Go.GX
open Go.RowKit

end Go.GX
namespace Go.Proofs.Ytndebacmnpghkaa
open Go.GX Go.RowKit
set_option maxRecDepth 100000


end Go.Proofs.Ytndebacmnpghkaa
end

section
/- The double cover of a network, both sides. -/
namespace Go.Proofs.Ytndebacmnpghkaa
open Go.GX Go.RowKit
set_option maxRecDepth 100000

/-! ### What is computed -/

abbrev Pt := Int × Int
def upBy (k : Nat) (e : Pt) : Pt := (e.1 + (k : Int), e.2)

/-- The rows with functions applied, as far as they are made: all of those before v, of row v the first i. -/
def partOf (f : Pt → Pt) (E : Ends) (v i u : Nat) : List Pt := if u < v then (rowOf E u).map f else if u = v then ((rowOf E u).take i).map f else []
def halfOf (f : Pt → Pt) (E : Ends) (v i : Nat) : Ends := (List.range E.length).map (partOf f E v i)
def dblTo (E : Ends) (v i : Nat) : Ends := halfOf (upBy E.length) E v i ++ halfOf id E v i
/-! ### One more end in a row -/

/-! ### Networks of the call's own memory in a variable -/

theorem neEmpty_ok {k : Nat} (hk : k ≤ 1000) (w : World) :
    Calls Try.prog F.s_neEmpty #[.int .i64 k] w (Ret [.agg [.sl, .sl, .sl]] fun (x y z : Sl) w' => Ext w w' ∧ OwnL w' w.heap.size T.t_sl_i_End x (List.replicate k (⟨none, 0, 0⟩ : Sl)) ∧ y = ⟨none, 0, 0⟩ ∧ OwnL w' w.heap.size T.t_int z (List.replicate k (0 : Int))) := by
  refine C_s_neEmpty ?_
  unfold V_s_neEmpty
  refine NEW_intro fun p w1 hp hs hE hb => ?_
  intro w2 hE2 _
  have hz1 := hE.size_le
  have hz2 := hE2.size_le
  replace hE := hE.ext hE2
  replace hb := hb.ext hE2
  refine ⟨fun b => b = p.block, ?_⟩
  have hA := Ext.refl w2
  refine ⟨?_, ?_⟩
  · skip
    have hzM := hA.size_le
    refine RUN_make (α := Sl) slt_ends (d := ⟨none, 0, 0⟩) rfl (by omega) (by unfold maxLen; omega) fun s wM hEM hOM => ⟨.of_ext (hA.trans hEM), ?_⟩
    replace hOM := hOM.low (base' := w.heap.size) (by omega)
    replace hA := hA.ext hEM
    replace hE := hE.ext hEM
    replace hb := hb.ext hEM
    have hzI := hA.size_le
    refine RUN_make (α := Int) slt_int (d := 0) rfl (by omega) (by unfold maxLen; omega) fun c wI hEI hOI => ⟨.of_ext (hA.trans hEI), ?_⟩
    replace hOI := hOI.low (base' := w.heap.size) (by omega)
    replace hA := hA.ext hEI
    replace hE := hE.ext hEI
    replace hb := hb.ext hEI
    replace hOM := hOM.ext hEI
    refine ⟨.of_ext hA, ?_⟩
    refine ST_all hb (by intro v hv; simp at hv; rcases hv with rfl | rfl | rfl <;> rfl) rfl fun w5 hs5 _ hb5 => ⟨(Chg.of_ext hA).trans (.of_step hs5 fun k hk => by cases hk; rfl), ?_⟩
    refine LD_box3 hb5 ⟨hs5.ext0 hE fun k hk => by cases hk; omega, hOM.stepB hb (by decide) hs5, rfl, hOI.stepB hb (by decide) hs5⟩
  · skip
    have hzI := hA.size_le
    refine RUN_make (α := Int) slt_int (d := 0) rfl (by omega) (by unfold maxLen; omega) fun c wI hEI hOI => ⟨.of_ext (hA.trans hEI), ?_⟩
    replace hOI := hOI.low (base' := w.heap.size) (by omega)
    replace hA := hA.ext hEI
    replace hE := hE.ext hEI
    replace hb := hb.ext hEI
    have hzM := hA.size_le
    refine RUN_make (α := Sl) slt_ends (d := ⟨none, 0, 0⟩) rfl (by omega) (by unfold maxLen; omega) fun s wM hEM hOM => ⟨.of_ext (hA.trans hEM), ?_⟩
    replace hOM := hOM.low (base' := w.heap.size) (by omega)
    replace hA := hA.ext hEM
    replace hE := hE.ext hEM
    replace hb := hb.ext hEM
    replace hOI := hOI.ext hEM
    refine ⟨.of_ext hA, ?_⟩
    refine ST_all hb (by intro v hv; simp at hv; rcases hv with rfl | rfl | rfl <;> rfl) rfl fun w5 hs5 _ hb5 => ⟨(Chg.of_ext hA).trans (.of_step hs5 fun k hk => by cases hk; rfl), ?_⟩
    refine LD_box3 hb5 ⟨hs5.ext0 hE fun k hk => by cases hk; omega, hOM.stepB hb (by decide) hs5, rfl, hOI.stepB hb (by decide) hs5⟩

theorem own_apart {α β : Type} [Flat α] [Flat β] {w : World} {base base' : Nat} {e e' : TypeId} {s s' : Sl} {l : List α} {l' : List β} (h : OwnL w base e s l) (h' : OwnL w base' e' s' l') (hne : e ≠ e') : ∀ b, s.v.ownBlock = some b → ¬ oB s' b := fun b hb hb' => by
  obtain ⟨c1, e1⟩ := h.type hb
  obtain ⟨c2, e2⟩ := h'.type hb'
  rw [e1] at e2
  exact hne (Obj.cells.inj (Option.some.inj e2)).2.1

theorem rows_blank {w : World} {base k : Nat} {s : Sl} (h : OwnL w base T.t_sl_i_End s (List.replicate k (⟨none, 0, 0⟩ : Sl))) : RowsD w base T.t_i_End T.t_sl_i_End s (List.replicate k ([] : List (Int × Int))) (List.replicate k ⟨none, 0, 0⟩) :=
  ⟨h, by simp, fun i r l hr hl => by
    rw [List.eq_of_mem_replicate (List.mem_of_getElem? hr), List.eq_of_mem_replicate (List.mem_of_getElem? hl)]; exact OwnL.nil _ _ _, fun i j r q hr _ _ k hk => by
    rw [List.eq_of_mem_replicate (List.mem_of_getElem? hr)] at hk; cases hk⟩

/-- What is known while the double cover is built, in the variable px. -/
structure Bld (w : World) (base : Nat) (px : Addr) (x z : Sl) (E : Ends) (v i : Nat) (Z : List Int) : Prop where
  box : Box w px T.t_i_Network [x.v, (⟨none, 0, 0⟩ : Sl).v, z.v]
  rows : ∃ ss, RowsD w base T.t_i_End T.t_sl_i_End x (dblTo E v i) ss
  ins : OwnL w base T.t_int z Z

theorem Bld.ext {w w' : World} {base : Nat} {px : Addr} {x z : Sl} {E : Ends} {v i : Nat} {Z : List Int} (h : Bld w base px x z E v i Z) (hE : Ext w w') : Bld w' base px x z E v i Z := by
  obtain ⟨h1, ⟨ss, h2⟩, h3⟩ := h
  exact ⟨h1.ext hE, ⟨ss, h2.ext hE⟩, h3.ext hE⟩

theorem i_network_ok {w : World} {a b c : Sl} {m : Net} (h : RNet w a b c m) (hs : m.ids.length ≤ 1048576) :
    Calls Try.prog F.i_network #[.agg #[a.v, b.v, c.v]] w (Ret [.agg [.sl, .sl, .sl], .at .bool] fun (x y z : Sl) (k : Bool) w' => Ext w w' ∧ (k = true ↔ Good m) ∧ (k = true → x = a ∧ y = b ∧ z = c)) := by
  refine C_i_network ?_
  unfold V_i_network
  refine NEW_intro fun p w1 hp hs1 hE1 hb1 => NEW_intro fun p2 w2 hp2 hs2 hE2 hb2 => LD_box3 (hb1.ext hE2) ?_
  have hE := hE1.trans hE2
  have hz := hE1.size_le
  replace h := h.ext hE
  replace hb1 := hb1.ext hE2
  refine call (isNetwork_ok h hs) ?_
  rintro x w3 ⟨hx, hE3⟩
  replace hE := hE.ext hE3
  replace hb1 := hb1.ext hE3
  replace hb2 := hb2.ext hE3
  refine cond_not (fun hf => ?_) (fun ht => ?_)
  · refine ST_all hb2 (vs := [(⟨none, 0, 0⟩ : Sl).v, (⟨none, 0, 0⟩ : Sl).v, (⟨none, 0, 0⟩ : Sl).v]) (one3 _ _ _) rfl fun w4 hs4 _ hb4 => LD_box3 hb4 ⟨hs4.ext0 hE fun k hk => by cases hk; omega, by rw [← hx]; simp [hf], by simp⟩
  · refine LD_box3 hb1 ?_
    refine ST_all hb2 (one3 _ _ _) rfl fun w4 hs4 _ hb4 => LD_box3 hb4 ⟨hs4.ext0 hE fun k hk => by cases hk; omega, by simp [hx.1 ht], fun _ => ⟨rfl, rfl, rfl⟩⟩



end Go.Proofs.Ytndebacmnpghkaa
end
