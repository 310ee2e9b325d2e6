/- Contracts of the functions on lists of numbers: sorting, copying, searching, ranges. -/
import Derived.Test.YtjfodknpphhajaaGreatNet
import Derived.Test.YtjfodknpphhajaaGreatSort
import Derived.Sort.OwnSortedInts
namespace Go.Proofs.YtjfodknpphhajaaGreat
open Go.GX Go.RowKit
set_option maxRecDepth 100000

/-! ### slices.Sort, slices.Clone -/

def sortI (l : List Int) : List Int := l.mergeSort fun x y => decide (x ≤ y)

theorem flatI (l : List Int) : l.flatMap Flat.cells = l.map (Value.int .i64) := by
  induction l with
  | nil => rfl
  | cons x r ih => rw [List.flatMap_cons, ih]; rfl

theorem Ret_nil {Q : World → Prop} {w : World} (h : Q w) : Ret [] Q (.returned (.tuple #[])) w := h

theorem sort_ok {w : World} {base : Nat} {s : Sl} {l : List Int} (h : OwnL w base T.t_int s l) (hl : l.length ≤ 1048576) :
    Calls Tryz.prog F.slices_Sort_sl_int_int #[s.v] w (Ret [] fun w' => OwnL w' base T.t_int s (sortI l) ∧ Step w w' s.v.ownBlock) := by
  rcases h.2.2 with ⟨hv, h0⟩ | ⟨g, cap, cur, hv, hb, hg, hle, hmx, hsz, htake⟩
  · have hnil : l = [] := by rw [h.1] at h0; exact List.length_eq_zero_iff.1 h0
    subst hnil
    have hlen : s.len = 0 := h0
    have hsv : s.v = .slice s.a 0 s.cap := by rw [← hlen]
    rw [hsv]
    refine (Srt.slices_Sort_int_none s.a s.cap w).mono ?_
    rintro e w' ⟨rfl, rfl⟩
    exact Ret_nil ⟨by simpa [sortI] using h, Step.refl _ _⟩
  · have htake' : cur.toList.take l.length = l.map (Value.int .i64) := by rw [← flatI, ← htake, h.1]; simp [Rep.sz]
    have hsv : s.v = .slice (some ⟨g, 0, none⟩) l.length cap := by rw [← h.1]; exact hv
    rw [hsv]
    refine (Srt.slices_Sort_int g 0 cap l w (holds_of_blockI hg htake') (Array.getElem?_eq_some_iff.1 hg).1 (by omega)).mono ?_
    rintro e w' ⟨rfl, n, os, rfl⟩
    refine Ret_nil ⟨⟨by simp [sortI, h.1], ?_⟩, Step.of_grown (grownBy_sortedI _)⟩
    unfold Own
    rw [h.1, hsv, flatI]
    exact ownsRow_sortedI (by simp) hb hg (by rw [← h.1]; exact hle) hmx hsz

theorem clone_ok {w : World} {s : Sl} {l : List Int} (h : R w s l) (hl : l.length ≤ 1048576) :
    Calls Tryz.prog F.slices_Clone_sl_int_int #[s.v] w (Ret [.at .sl] fun (r : Sl) w' => Ext w w' ∧ OwnL w' w.heap.size T.t_int r l) := by
  refine C_slices_Clone_sl_int_int ?_
  unfold V_slices_Clone_sl_int_int
  refine cond_b (fun hn => ?_) (fun _ => ?_)
  · have hnil : l = [] := by
      cases l with
      | nil => rfl
      | cons x r => obtain ⟨a, _, ha, _⟩ := h.2.2 0 x rfl; rw [ha] at hn; cases hn
    subst hnil
    exact ⟨Ext.refl _, OwnL.nil _ _ _⟩
  · refine RUN_lit0 (α := Int) slt_int fun r w1 hE1 hO1 => ?_
    refine RUN_append (α := Int) slt_int hO1 hE1.size (h.ext hE1) (by simp; omega) (by simp [maxLen]; omega) fun r' w2 hO2 hs => ?_
    exact ⟨hs.ext0 hE1 (fun k hk => (hO1.blk k hk).1), by simpa using hO2⟩

/-! ### Ranges -/

/-- Strictly increasing, step by step. -/
def Incr (l : List Int) : Prop := ∀ i, (h : i + 1 < l.length) → l[i] < l[i + 1]

def AllIn (l : List Int) (lo hi : Int) : Prop := ∀ x ∈ l, lo ≤ x ∧ x ≤ hi

theorem allIn_take_succ {l : List Int} {lo hi : Int} {i : Nat} (hi' : i < l.length) (h : AllIn (l.take i) lo hi) (hx : lo ≤ l[i] ∧ l[i] ≤ hi) : AllIn (l.take (i + 1)) lo hi := fun x hm => by
  rw [List.take_succ_eq_append_getElem hi'] at hm
  rcases List.mem_append.1 hm with h1 | h1
  · exact h x h1
  · rw [List.mem_singleton.1 h1]; exact hx

theorem l1All_ok {w : World} {s : Sl} {l : List Int} (h : R w s l) (lo hi : Int) :
    Calls Tryz.prog F.s_l1All #[s.v, .int .i64 lo, .int .i64 hi] w (Ret [.at .bool] fun (b : Bool) w' => (b = true ↔ AllIn l lo hi) ∧ w = w') := by
  refine C_s_l1All ?_
  unfold V_s_l1All
  rw [h.len]
  refine ⟨IN l.length fun i w' => w = w' ∧ AllIn (l.take i) lo hi, MN l.length, IN_zero ⟨rfl, fun x hx => by simp at hx⟩, ?_⟩
  rintro x _ ⟨i, rfl, hi', rfl, ha⟩
  intros
  refine cond_dec (fun hlt => ?_) (fun hge => ⟨?_, rfl⟩)
  · have hlt' : i < l.length := by omega
    refine h.ixI hlt' fun p _ hc => LD_int hc ?_
    refine call (l1In_ok _ _ _ _) ?_
    rintro b _ ⟨hb, rfl⟩
    refine cond_not (fun hf => ⟨?_, rfl⟩) (fun ht => IN_next h.le hlt' ⟨rfl, allIn_take_succ hlt' ha (inR_true (hb ▸ ht))⟩)
    simp only [Bool.false_eq_true, false_iff]
    intro hall
    exact inR_false (hb ▸ hf) (hall _ (List.getElem_mem hlt'))
  · have : i = l.length := by omega
    subst this
    simpa using ha

/-- What both sides' test of increasing lists comes to. -/
def Rising (l : List Int) (lo hi : Int) : Prop := AllIn l lo hi ∧ Incr l

theorem incr_take_succ {l : List Int} {i : Nat} (hi : i < l.length) (h : Incr (l.take i)) (hx : ∀ (h0 : 0 < i), l[i - 1] < l[i]) : Incr (l.take (i + 1)) := by
  intro j hj
  simp at hj
  have h1 : (l.take (i + 1))[j]'(by simp; omega) = l[j]'(by omega) := by simp
  have h2 : (l.take (i + 1))[j + 1]'(by simp; omega) = l[j + 1]'(by omega) := by simp
  rw [h1, h2]
  by_cases hji : j + 1 = i
  · subst hji; exact hx (by omega)
  · have := h j (by simp; omega)
    simpa using this

theorem incr_of_take {l : List Int} {i : Nat} (h : Incr l) : Incr (l.take i) := by
  intro j hj
  simp at hj
  have := h j (by omega)
  simpa using this

theorem increasing_ok {w : World} {s : Sl} {l : List Int} (h : R w s l) (lo hi : Int) :
    Calls Tryz.prog F.i_increasing #[s.v, .int .i64 lo, .int .i64 hi] w (Ret [.at .bool] fun (b : Bool) w' => (b = true ↔ Rising l lo hi) ∧ w = w') := by
  refine C_i_increasing ?_
  unfold V_i_increasing
  rw [h.len]
  refine ⟨IN l.length fun i w' => w = w' ∧ AllIn (l.take i) lo hi ∧ Incr (l.take i), MN l.length, IN_zero ⟨rfl, fun x hx => by simp at hx, fun j hj => by simp at hj⟩, ?_⟩
  rintro x _ ⟨i, rfl, hi', rfl, ha, hinc⟩
  intros
  have hle := h.le
  refine cond_dec (fun hlt => ?_) (fun hge => ⟨?_, rfl⟩)
  · have hlt' : i < l.length := by omega
    refine h.ixI hlt' fun p _ hc => LD_int hc ?_
    refine call (within_ok _ _ _ _) ?_
    rintro b _ ⟨hb, rfl⟩
    refine cond_not (fun hf => ⟨?_, rfl⟩) (fun ht => ?_)
    · simp only [Bool.false_eq_true, false_iff]
      intro hall
      exact inR_false (hb ▸ hf) (hall.1 _ (List.getElem_mem hlt'))
    · have hr := inR_true (hb ▸ ht)
      refine cond_dec (fun hpos => ?_) (fun hnp => ?_)
      · have hpos' : 0 < i := by omega
        have e1 : IntKind.i64.wrap ((i : Int) - 1) = ((i - 1 : Nat) : Int) := by rw [wrap_of (by omega) (by omega)]; omega
        rw [e1]
        refine h.ixI (by omega) fun p _ hc => LD_int hc ?_
        refine cond_dec (fun hge2 => ⟨?_, rfl⟩) (fun hlt2 => ?_)
        · simp only [Bool.false_eq_true, false_iff]
          intro hall
          have := hall.2 (i - 1) (by omega)
          simp only [show i - 1 + 1 = i by omega] at this
          omega
        · exact IN_next hle hlt' ⟨rfl, allIn_take_succ hlt' ha hr, incr_take_succ hlt' hinc fun _ => by omega⟩
      · exact IN_next hle hlt' ⟨rfl, allIn_take_succ hlt' ha hr, incr_take_succ hlt' hinc fun h0 => absurd h0 (by omega)⟩
  · have : i = l.length := by omega
    subst this
    simp at ha hinc
    simp [Rising, ha, hinc]

/-! ### Searching with a function -/

/-- A function value that answers p for each element of a list, whatever the world that goes on from this one. -/
def Answers (w : World) (f : Value) (l : List Int) (p : Int → Bool) : Prop :=
  ∀ x ∈ l, ∀ w', Ext w w' → CALLV Tryz.prog f #[.int .i64 x] w' (Ret [.at .bool] fun (b : Bool) w'' => b = p x ∧ Ext w' w'')

theorem callv {P : Program} {f : Value} {args : Array Value} {w : World} {rs : List Sh} {Q Q' : Cur (World → Prop) (atsR rs)} (h : CALLV P f args w (Ret rs Q)) (hk : CurLe (atsR rs) Q Q') : CALLV P f args w (Ret rs Q') := by
  obtain ⟨g, caps, h1, h2, h3⟩ := h
  exact ⟨g, caps, h1, h2, call h3 hk⟩

theorem indexFuncI_ok {w : World} {s : Sl} {l : List Int} (h : R w s l) {f : Value} {p : Int → Bool} (hf : Answers w f l p) :
    Calls Tryz.prog F.slices_IndexFunc_sl_int_int #[s.v, f] w (Ret [.at (.int .i64)] fun (i : Int) w' => (match l.findIdx? p with | some k => i = k | none => i = -1) ∧ Ext w w') := by
  refine C_slices_IndexFunc_sl_int_int ?_
  unfold V_slices_IndexFunc_sl_int_int
  rw [h.len]
  refine ⟨IN l.length fun i w' => Ext w w' ∧ ∀ x ∈ l.take i, p x = false, MN l.length, IN_zero ⟨Ext.refl _, by simp⟩, ?_⟩
  rintro x w1 ⟨i, rfl, hi', hE, ha⟩
  intros
  refine cond_dec (fun hlt => ?_) (fun hge => ⟨?_, hE⟩)
  · have hlt' : i < l.length := by omega
    refine (h.ext hE).ixI hlt' fun q _ hc => LD_int hc ?_
    refine callv (hf _ (List.getElem_mem hlt') w1 hE) ?_
    rintro b w2 ⟨rfl, hE2⟩
    refine cond_b (fun ht => ⟨?_, hE.trans hE2⟩) (fun hf => ?_)
    · have : l.findIdx? p = some i := by
        rw [List.findIdx?_eq_some_iff_getElem]
        refine ⟨hlt', ht, fun j hj => ?_⟩
        have := ha l[j] (by rw [List.mem_take_iff_getElem]; exact ⟨j, by omega, rfl⟩)
        simp [this]
      rw [this]
    · refine IN_next h.le hlt' ⟨hE.trans hE2, fun y hy => ?_⟩
      rw [List.take_succ_eq_append_getElem hlt'] at hy
      rcases List.mem_append.1 hy with h1 | h1
      · exact ha y h1
      · rw [List.mem_singleton.1 h1]; exact hf
  · have : i = l.length := by omega
    subst this
    have : l.findIdx? p = none := by
      rw [List.findIdx?_eq_none_iff]
      intro y hy
      exact ha y (by simpa using hy)
    rw [this]

theorem containsFuncI_ok {w : World} {s : Sl} {l : List Int} (h : R w s l) {f : Value} {p : Int → Bool} (hf : Answers w f l p) :
    Calls Tryz.prog F.slices_ContainsFunc_sl_int_int #[s.v, f] w (Ret [.at .bool] fun (b : Bool) w' => b = l.any p ∧ Ext w w') := by
  refine C_slices_ContainsFunc_sl_int_int ?_
  unfold V_slices_ContainsFunc_sl_int_int
  refine call (indexFuncI_ok h hf) ?_
  rintro i w1 ⟨hi, hE⟩
  refine ⟨?_, hE⟩
  cases hf : l.findIdx? p with
  | none =>
    rw [hf] at hi
    simp only at hi
    subst hi
    have h1 := List.findIdx?_eq_none_iff.1 hf
    have : l.any p = false := by
      rw [List.any_eq_false]; intro x hx; simp [h1 x hx]
    rw [this]; rfl
  | some k =>
    rw [hf] at hi
    simp only at hi
    subst hi
    obtain ⟨hk, hp, _⟩ := List.findIdx?_eq_some_iff_getElem.1 hf
    have : l.any p = true := List.any_eq_true.2 ⟨l[k], List.getElem_mem hk, hp⟩
    rw [this]
    simp

theorem allWithin_ok {w : World} {s : Sl} {l : List Int} (h : R w s l) (lo hi : Int) :
    Calls Tryz.prog F.i_allWithin #[s.v, .int .i64 lo, .int .i64 hi] w (Ret [.at .bool] fun (b : Bool) w' => (b = true ↔ AllIn l lo hi) ∧ Ext w w') := by
  refine C_i_allWithin ?_
  unfold V_i_allWithin
  refine NEW_intro fun p1 w1 hp1 hs1 hE1 hb1 => ?_
  refine NEW_intro fun p2 w2 hp2 hs2 hE2 hb2 => ?_
  have hb1' := hb1.ext hE2
  have hE := hE1.trans hE2
  refine call (containsFuncI_ok (p := fun x => !inR x lo hi) (h.ext hE) ?_) ?_
  · intro x hx w' hw'
    refine CALLV_mk (by kernel_rfl) (C_i_allWithin_1 ?_)
    unfold V_i_allWithin_1
    refine LD_bi (hb1'.ext hw') (LD_bi (hb2.ext hw') ?_)
    refine call (within_ok _ _ _ _) ?_
    rintro b _ ⟨rfl, rfl⟩
    exact ⟨rfl, Ext.refl _⟩
  · rintro b w3 ⟨rfl, hE3⟩
    refine ⟨?_, hE.trans hE3⟩
    simp [AllIn, inR]

/-! ### Identifiers, inputs -/

def IdsOk (ids : List Int) (k : Nat) : Prop := AllIn ids 1 999999 ∧ ids.Nodup ∧ (ids.length = 0 ∨ ids.length = k)

theorem nodup_take_succ {l : List Int} {i : Nat} (hi : i < l.length) (h : (l.take i).Nodup) (hx : l[i] ∉ l.take i) : (l.take (i + 1)).Nodup := by
  rw [List.take_succ_eq_append_getElem hi, List.nodup_append]
  refine ⟨h, by simp, ?_⟩
  intro a ha b hb hab
  rw [List.mem_singleton.1 hb] at hab
  subst hab
  exact hx ha

theorem neIds_ok {w : World} {s : Sl} {l : List Int} (h : R w s l) (k : Nat) :
    Calls Tryz.prog F.s_neIds #[s.v, .int .i64 k] w (Ret [.at .bool] fun (b : Bool) w' => (b = true ↔ IdsOk l k) ∧ w = w') := by
  refine C_s_neIds ?_
  unfold V_s_neIds
  rw [h.len]
  refine ⟨IN l.length fun i w' => w = w' ∧ AllIn (l.take i) 1 999999 ∧ (l.take i).Nodup, MN l.length, IN_zero ⟨rfl, fun x hx => by simp at hx, by simp⟩, ?_⟩
  rintro x _ ⟨i, rfl, hi', rfl, ha, hn⟩
  intros
  refine cond_dec (fun hlt => ?_) (fun hge => ?_)
  · have hlt' : i < l.length := by omega
    refine h.ixI hlt' fun p _ hc => LD_int hc ?_
    refine call (l1In_ok _ _ _ _) ?_
    rintro b _ ⟨hb, rfl⟩
    refine cond_not (fun hf => ⟨?_, rfl⟩) (fun ht => ?_)
    · simp only [Bool.false_eq_true, false_iff]
      intro hall
      exact inR_false (hb ▸ hf) (hall.1 _ (List.getElem_mem hlt'))
    · refine h.take hi' rfl fun s' hs' => ?_
      refine call (l1Has_ok hs' _) ?_
      rintro b _ ⟨rfl, rfl⟩
      refine cond_b (fun hc => ⟨?_, rfl⟩) (fun hc => IN_next h.le hlt' ⟨rfl, allIn_take_succ hlt' ha (inR_true (hb ▸ ht)), nodup_take_succ hlt' hn (by simpa using hc)⟩)
      simp only [Bool.false_eq_true, false_iff]
      intro hall
      have hmem : l[i] ∈ l.take i := by simpa using hc
      obtain ⟨j, hj, he⟩ := List.mem_take_iff_getElem.1 hmem
      exact (List.pairwise_iff_getElem.1 hall.2.1) j i (by omega) hlt' (by omega) he
  · have : i = l.length := by omega
    subst this
    simp only [List.take_length] at ha hn
    refine cond_eq (fun h0 => ⟨?_, rfl⟩) (fun h0 => ⟨?_, rfl⟩)
    · simp only [true_iff]; exact ⟨ha, hn, .inl (by omega)⟩
    · rw [beq_iff_eq]
      constructor
      · intro he; exact ⟨ha, hn, .inr (by omega)⟩
      · rintro ⟨_, _, h1 | h1⟩
        · omega
        · omega

theorem incr_iff_pairwise {l : List Int} : Incr l ↔ l.Pairwise (· < ·) := by
  constructor
  · intro h
    rw [List.pairwise_iff_getElem]
    intro i j hi hj hij
    induction j with
    | zero => omega
    | succ j ih =>
      rcases Nat.lt_or_eq_of_le (Nat.le_of_lt_succ hij) with h1 | h1
      · exact Int.lt_trans (ih (by omega) h1) (h j hj)
      · subst h1; exact h i hj
  · intro h i hi
    exact (List.pairwise_iff_getElem.1 h) i (i + 1) (by omega) hi (by omega)

theorem sortI_perm (l : List Int) : (sortI l).Perm l := List.mergeSort_perm _ _

theorem sortI_sorted (l : List Int) : (sortI l).Pairwise (· ≤ ·) := by
  have := List.pairwise_mergeSort (le := fun x y : Int => decide (x ≤ y)) (fun a b c h1 h2 => by simp at *; omega) (fun a b => by simp; omega) l
  exact this.imp (by intro a b h; simpa using h)

theorem incr_sortI {l : List Int} : Incr (sortI l) ↔ l.Nodup := by
  rw [incr_iff_pairwise, ← (sortI_perm l).nodup_iff]
  constructor
  · intro h; exact h.imp (fun h => by omega)
  · intro h
    exact (List.pairwise_and_iff.2 ⟨sortI_sorted l, h⟩).imp (fun ⟨h1, h2⟩ => by omega)

theorem allIn_sortI {l : List Int} {lo hi : Int} : AllIn (sortI l) lo hi ↔ AllIn l lo hi :=
  ⟨fun h x hx => h x ((sortI_perm l).mem_iff.2 hx), fun h x hx => h x ((sortI_perm l).mem_iff.1 hx)⟩

theorem idsOk_ok {w : World} {s : Sl} {l : List Int} (h : R w s l) (hl : l.length ≤ 1048576) (k : Nat) :
    Calls Tryz.prog F.i_idsOk #[s.v, .int .i64 k] w (Ret [.at .bool] fun (b : Bool) w' => (b = true ↔ IdsOk l k) ∧ Ext w w') := by
  refine C_i_idsOk ?_
  unfold V_i_idsOk
  rw [h.len]
  refine cond_eq (fun h0 => ⟨?_, Ext.refl _⟩) (fun h0 => ?_)
  · have : l = [] := List.length_eq_zero_iff.1 (by omega)
    subst this
    simp [IdsOk, AllIn]
  · refine call (clone_ok h hl) ?_
    rintro r w1 ⟨hE1, hO1⟩
    refine call (sort_ok hO1 hl) ?_
    rintro w2 ⟨hO2, hs2⟩
    have hE2 := hs2.ext0 hE1 (fun k hk => (hO1.blk k hk).1)
    refine cond_eq (fun he => ?_) (fun hne => ⟨?_, hE2⟩)
    · have hr := hO2.rep (fun x hx => flat_ok h x ((sortI_perm l).mem_iff.1 hx))
      refine call (increasing_ok hr.any 1 999999) ?_
      rintro b _ ⟨hb, rfl⟩
      refine ⟨?_, hE2⟩
      rw [hb]
      unfold Rising IdsOk
      rw [incr_sortI, allIn_sortI]
      constructor
      · intro ⟨h1, h2⟩; exact ⟨h1, h2, .inr (by omega)⟩
      · intro ⟨h1, h2, _⟩; exact ⟨h1, h2⟩
    · simp only [Bool.false_eq_true, false_iff]
      rintro ⟨_, _, h1 | h1⟩
      · omega
      · omega

theorem inputsOk_ok {w : World} {s : Sl} {l : List Int} (h : R w s l) (k : Nat) :
    Calls Tryz.prog F.i_inputsOk #[s.v, .int .i64 k] w (Ret [.at .bool] fun (b : Bool) w' => (b = true ↔ l.length = k ∧ AllIn l 0 9) ∧ Ext w w') := by
  refine C_i_inputsOk ?_
  unfold V_i_inputsOk
  rw [h.len]
  refine cond_eq (fun he => ?_) (fun hne => ⟨?_, Ext.refl _⟩)
  · refine call (allWithin_ok h 0 9) ?_
    rintro b w1 ⟨hb, hE⟩
    refine ⟨?_, hE⟩
    rw [hb]
    constructor
    · intro h1; exact ⟨by omega, h1⟩
    · exact fun h1 => h1.2
  · simp only [Bool.false_eq_true, false_iff]
    intro h1; omega

end Go.Proofs.YtjfodknpphhajaaGreat
