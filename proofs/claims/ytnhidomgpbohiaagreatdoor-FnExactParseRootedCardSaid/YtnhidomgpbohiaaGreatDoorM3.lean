/- Own texts, merged: ParseRo2, ParseRo3, ParseRoIn, ParseRootedWalk, Trod, Open, Door, CardFrame. -/
import Derived.Test.YtnhidomgpbohiaaGreatDoorM2
import Derived.Deep.Slices
import Derived.Lib.SmallJoins
import Derived.OpenShut
import Derived.ShutString
import Derived.ChangeOld
import Derived.Carry
import Derived.ProofKit
import Derived.Test.YtnhidomgpbohiaaGreatDoorRows
import Derived.KernelRfl
import Derived.JoinedOf
import Derived.HandedShaped
import Derived.Handed
import Derived.Shelf.Vars
import Derived.Lib.LaidTab
import Derived.MakeChecks
import Derived.LaidMore
import Derived.Lay
import Derived.Stop.Joined
import Derived.LaidLaws
set_option linter.unusedVariables false
section
/- Texts of rooted problems read: both sides. -/
namespace Go.Proofs.YtnhidomgpbohiaaGreatDoor
open Go.GX Go.RowKit
set_option maxRecDepth 100000

/-- What reading a text answers. -/
structure PaAns (l : List UInt8) (q : RPr) (ok : Bool) : Prop where
  yes : ok = true → RoGood q ∧ roTextS q = l
  no : ok = false → q = ⟨0, 0, []⟩ ∧ ∀ p, RoGood p → roTextS p ≠ l
theorem PaAns.eq {l : List UInt8} {p q : RPr} {a b : Bool} (h : PaAns l p a) (h' : PaAns l q b) : p = q ∧ a = b := by
  cases a with
  | true =>
    obtain ⟨h1, h2⟩ := h.yes rfl
    cases b with
    | true => obtain ⟨h3, h4⟩ := h'.yes rfl; exact ⟨roText_inj h1 h3 (h2.trans h4.symm), rfl⟩
    | false => exact absurd h2 ((h'.no rfl).2 p h1)
  | false =>
    cases b with
    | true => obtain ⟨h3, h4⟩ := h'.yes rfl; exact absurd h4 ((h.no rfl).2 q h3)
    | false => exact ⟨(h.no rfl).1.trans (h'.no rfl).1.symm, rfl⟩

def roPre (p : RPr) : Nat → RPr
  | 0 => ⟨0, 0, []⟩
  | i + 1 => ⟨p.labels, p.children, p.lines.take i⟩

theorem ro_line {p : RPr} {i : Nat} (hi : i < (roLines p).length) :
    (i = 0 ∧ splitB 32 (roLines p)[i] = wRooted :: [p.labels, p.children].map numS) ∨ ∃ j, i = j + 1 ∧ ∃ h : j < p.lines.length, splitB 32 (roLines p)[i] = wLine :: (p.lines[j]).map numS := by
  cases i with
  | zero => exact .inl ⟨rfl, lineS_words wRooted_32⟩
  | succ j =>
    have hj : j < p.lines.length := by simpa [roLines] using hi
    refine .inr ⟨j, rfl, hj, ?_⟩
    have e : (roLines p)[j + 1] = lineS wLine p.lines[j] := by simp [roLines]
    rw [e]
    exact lineS_words wLine_32

theorem words_ne : wRooted ≠ wLine := by decide

theorem ParseRooted_ok {w : World} (g : GV w) {l : List UInt8} (hl : l.length ≤ 1048576) :
    Calls Tryz.prog F.i_ParseRooted #[.string (mkS l)] w (Ret [.agg [.int .i64, .int .i64, .sl], .at .bool] fun (x : Int) (y : Int) (z : Sl) (ok : Bool) w' => Ext w w' ∧ ∃ q : RPr, x = q.labels ∧ y = q.children ∧ OutM w.heap.size w' z q.lines ∧ PaAns l q ok) := by
  refine C_i_ParseRooted ?_
  unfold V_i_ParseRooted
  refine NEW_intro fun px w1 hp1 hs1 hE1 hb1 => ?_
  -- nothing is read
  have no : ∀ {w' : World}, Ext w1 w' → (∀ p, RoGood p → roTextS p ≠ l) → GX.ST px 0 [.int .i64 0, .int .i64 0, .slice none 0 0] w' fun w'' => LD [.int .i64, .int .i64, .sl] px w'' fun (x : Int) (y : Int) (z : Sl) => Ext w w'' ∧ ∃ q : RPr, x = q.labels ∧ y = q.children ∧ OutM w.heap.size w'' z q.lines ∧ PaAns l q false := by
    intro w' hE hn
    refine ST_all (vs := [.int .i64 0, .int .i64 0, .slice none 0 0]) (hb1.ext hE) (one3r 0 0 ⟨none, 0, 0⟩) rfl fun w'' hs hz hb => LD_iis (z := ⟨none, 0, 0⟩) hb ?_
    exact ⟨hs.ext0 (hE1.trans hE) fun k hk => by cases hk; omega, ⟨0, 0, []⟩, rfl, rfl, OutM.nil _ _, ⟨(fun h => by cases h), fun _ => ⟨rfl, hn⟩⟩⟩
  refine call (endedLines_ok (g.ext hE1) (by omega)) ?_
  rintro sL ok w2 ⟨hE2, hr⟩
  refine cond_not (fun hf => no hE2 fun p _ hp => ?_) (fun ht => ?_)
  · rcases hr with ⟨hr, _⟩ | ⟨_, hr⟩
    · rw [hr] at hf; cases hf
    · obtain ⟨x, hx⟩ := linesS_end (L := roLines p) (by simp [roLines])
      exact hr x (hp.symm.trans hx)
  rcases hr with ⟨_, x, hx, hRL⟩ | ⟨hr, _⟩
  rotate_left
  · rw [hr] at ht; cases ht
  have hLx := splitB_len 10 x
  have hxl : x.length + 1 = l.length := by rw [hx]; simp
  have hpc := fun y (hy : y ∈ splitB 10 x) => (splitB_mem hy).2
  have hOf : ∀ p, RoGood p → roTextS p = l → roLines p = splitB 10 x := fun p _ hp => (linesS_rest (roLines_no10 p) (hp.trans hx)).symm
  generalize splitB 10 x = L at hRL hLx hpc hOf
  refine NEW_intro fun po w4 hp4 hs4 hE4 hb4 => ?_
  have hz2 := hE2.size_le
  have hE02 := hE1.trans hE2
  rw [hRL.len, List.length_map]
  refine ⟨IN L.length fun i w' => Ext w2 w' ∧ ∃ (q : RPr) (z : Sl) (ss : List Sl), Box w' po T.t_i_RootedProblem [.int .i64 q.labels, .int .i64 q.children, z.v] ∧ RowsD w' w4.heap.size T.t_int T.t_sl_int z q.lines ss ∧ Six [q.labels, q.children] ∧ (∀ r ∈ q.lines, Six r ∧ r.length ≤ 1048576) ∧ q.lines.length ≤ i ∧ ∀ p, RoGood p → roTextS p = l → q = roPre p i,
    MN L.length, IN_zero ⟨hE4, ⟨0, 0, []⟩, ⟨none, 0, 0⟩, [], hb4, RowsD.nil _ _ _ _, by intro a ha; simp at ha; omega, by simp, by simp, fun p _ _ => rfl⟩, ?_⟩
  rintro _ w5 ⟨i, rfl, hi, hE25, q, z, ss, hb5, hM5, h6, hr6, hqi, hq⟩
  intros
  have hz25 := hE25.size_le
  have hg5 := (g.ext hE02).ext hE25
  have hz4 : w4.heap.size ≤ w5.heap.size := by have := hb5.lt; omega
  refine cond_dec (fun hlt => ?_) (fun hge => ?_)
  · have hi' : i < L.length := by omega
    have hLi := hpc _ (List.getElem_mem hi')
    refine (hRL.ext hE25).ixS hi' fun pa hc => LD_str hc ?_
    rw [mk_lit [32], mk_lit [114, 111, 111, 116, 101, 100]]
    refine call (Split_ok hg5 (l := L[i]) (c := 32) (by omega)) ?_
    rintro sw w6 ⟨hE6, hRw⟩
    obtain ⟨wd, ws, hws⟩ := List.exists_cons_of_ne_nil (splitB_ne 32 L[i])
    have hwl := splitB_len 32 L[i]
    have hwm := fun y (hy : y ∈ splitB 32 L[i]) => (splitB_mem hy).2
    have hof : ∀ p, RoGood p → roTextS p = l → (i = 0 ∧ wd = wRooted ∧ ws = [p.labels, p.children].map numS) ∨ ∃ j, i = j + 1 ∧ ∃ h : j < p.lines.length, wd = wLine ∧ ws = (p.lines[j]).map numS := by
      intro p hp1 hp2
      have e := hOf p hp1 hp2
      have hi2 : i < (roLines p).length := by rw [e]; exact hi'
      have e2 : splitB 32 (roLines p)[i] = wd :: ws := by rw [← hws]; congr 1; simp only [e]
      rcases ro_line hi2 with ⟨h1, h2⟩ | ⟨j, h1, h3, h2⟩
      · rw [e2] at h2
        exact .inl ⟨h1, (List.cons.inj h2).1, (List.cons.inj h2).2⟩
      · rw [e2] at h2
        exact .inr ⟨j, h1, h3, (List.cons.inj h2).1, (List.cons.inj h2).2⟩
    rw [hws] at hRw hwl hwm
    have hRw' : R w6 sw (mkS wd :: ws.map mkS) := hRw
    refine slr_drop (i := 1) hRw' (by simp) rfl fun st hst => ?_
    have hst' : R w6 st (ws.map mkS) := by simpa using hst.any
    have hg6 := hg5.ext hE6
    simp only [List.length_cons] at hwl
    refine call (starNumbers_ok hg6 hst' (by omega) fun y hy => by have := hwm y (by simp [hy]); omega) ?_
    rintro sn ok2 w7 ⟨hE7, hA⟩
    have hE57 := hE6.trans hE7
    have hE27 := hE25.trans hE57
    refine cond_not (fun hf => no (hE2.trans hE27) fun p hp1 hp2 => ?_) (fun ht2 => ?_)
    · rcases hA with ⟨hA, _⟩ | ⟨_, hA⟩
      · rw [hA] at hf; cases hf
      · rcases hof p hp1 hp2 with ⟨_, _, h3⟩ | ⟨j, _, hj, _, h3⟩
        · exact hA _ (h3 ▸ stars_of hp1.head)
        · exact hA _ (h3 ▸ stars_of (hp1.six _ (List.getElem_mem hj)))
    rcases hA with ⟨_, ns, hns, hOn⟩ | ⟨hA, _⟩
    rotate_left
    · rw [hA] at ht2; cases ht2
    have hn64 : ∀ y ∈ ns, I64 y := fun y hy => by have := hns.2 y hy; show I64 _; unfold I64; omega
    have hnl : ns.length = ws.length := by rw [← hns.1, List.length_map]
    have hz6 := hE6.size_le
    have hz7 := hE7.size_le
    have hb7 := hb5.ext hE57
    have hM7 := hM5.ext hE57
    -- which numbers
    have hof2 : ∀ p, RoGood p → roTextS p = l → (i = 0 ∧ wd = wRooted ∧ ns = [p.labels, p.children]) ∨ ∃ j, i = j + 1 ∧ ∃ h : j < p.lines.length, wd = wLine ∧ ns = p.lines[j] := by
      intro p hp1 hp2
      rcases hof p hp1 hp2 with ⟨h1, h2, h3⟩ | ⟨j, h1, hj, h2, h3⟩
      · exact .inl ⟨h1, h2, hns.unique (h3 ▸ stars_of hp1.head)⟩
      · exact .inr ⟨j, h1, hj, h2, hns.unique (h3 ▸ stars_of (hp1.six _ (List.getElem_mem hj)))⟩
    have hget0 : ∀ {K : Addr → Prop}, (∀ pa, w7.cell? pa = some (.string (mkS wd)) → K pa) → IX sw 0 1 K := fun hk => (SlR.ixS (L := wd :: ws) (i := 0) (hRw'.ext hE7) (by simp)) hk
    -- neither kind of line
    have bad : wd ≠ wLine → (wd = wRooted → (ns.length : Int) ≠ 2) → ∀ p, RoGood p → roTextS p ≠ l := by
      intro h1 h2 p hp1 hp2
      rcases hof2 p hp1 hp2 with ⟨_, h3, h4⟩ | ⟨_, _, _, h3, _⟩
      · exact h2 h3 (by rw [h4]; rfl)
      · exact h1 h3
    -- a row more
    have rowC : (wd = wRooted → (ns.length : Int) ≠ 2) → V_i_ParseRooted_k5 (IN L.length fun i w' => Ext w2 w' ∧ ∃ (q : RPr) (z : Sl) (ss : List Sl), Box w' po T.t_i_RootedProblem [.int .i64 q.labels, .int .i64 q.children, z.v] ∧ RowsD w' w4.heap.size T.t_int T.t_sl_int z q.lines ss ∧ Six [q.labels, q.children] ∧ (∀ r ∈ q.lines, Six r ∧ r.length ≤ 1048576) ∧ q.lines.length ≤ i ∧ ∀ p, RoGood p → roTextS p = l → q = roPre p i)
        (MN L.length) (i : Int) w5 (fun (x : Int) (y : Int) (z : Sl) (ok : Bool) w' => Ext w w' ∧ ∃ q : RPr, x = q.labels ∧ y = q.children ∧ OutM w.heap.size w' z q.lines ∧ PaAns l q ok) px po sw sn false w7 := by
      intro hnr
      unfold V_i_ParseRooted_k5
      refine cond_f rfl ?_
      refine hget0 fun pa hc => LD_str hc ?_
      rw [mk_lit [108, 105, 110, 101]]
      refine cond_seq (a := wd) (b := wLine) (fun heq => ?_) (fun hne => no (hE2.trans hE27) (bad hne hnr))
      refine LD_bs2 hb7 ?_
      refine RUN_lit1 (α := Sl) slt_rows sn rfl (by decide) fun y8 w8 hE8 hO8 => ?_
      have hz8 := hE8.size_le
      have hM8 := hM7.ext hE8
      refine RUN_append_rowD slt_rows (by decide) hM8 (by omega) ((hOn.ext hE8).low (by omega)) (fun j r hr k hk => (hM5.ext hE6).fresh hOn (Nat.le_refl _) j r hr k hk) hO8 (by omega) (by unfold maxLen; omega) fun t9 w9 hM9 hs9 => ?_
      have hnt : ¬ oB z po.block := fun hh => by have := (hM8.own.blk _ hh).1; omega
      have hb8 := hb7.ext hE8
      have hb9 : Box w9 po T.t_i_RootedProblem [.int .i64 q.labels, .int .i64 q.children, z.v] := hb8.chg (Chg.of_step (D := oB z) hs9 fun k hk => hk) hnt
      have hE29 : Ext w2 w9 := hs9.ext0 (hE27.trans hE8) fun k hk => by have := (hM8.own.blk k hk).1; omega
      refine ST_boxC hb9 (by simp) rfl hE29 (by omega) fun w10 hC10 hE210 hb10 => ?_
      have hM10 := hM9.keep (w' := w10) fun k hk hk2 => hC10.block k hk2 fun he => by omega
      refine IN_next (by omega) hi' ⟨hE210, ⟨q.labels, q.children, q.lines ++ [ns]⟩, t9, ss ++ [sn], hb10, hM10, h6, ?_, ?_, ?_⟩
      · intro r hr
        rcases List.mem_append.1 hr with hr | hr
        · exact hr6 r hr
        · rw [List.mem_singleton.1 hr]; exact ⟨hns.2, by omega⟩
      · simp only [List.length_append, List.length_cons, List.length_nil]; omega
      · intro p hp1 hp2
        rcases hof2 p hp1 hp2 with ⟨_, h3, _⟩ | ⟨j, rfl, hj, _, h4⟩
        · exact absurd (h3.symm.trans heq) words_ne
        · rw [hq p hp1 hp2, h4]
          show RPr.mk _ _ _ = RPr.mk _ _ _
          rw [List.take_succ_eq_append_getElem hj]; rfl
    refine hget0 fun pa hc => LD_str hc ?_
    refine cond_seq (a := wd) (b := wRooted) (fun heq => ?_) (fun hne => rowC fun h => absurd h hne)
    rw [hOn.1]
    by_cases h2 : (ns.length : Int) = 2
    rotate_left
    · rw [beq_eq_false_iff_ne.2 h2]
      exact rowC fun _ => h2
    rw [beq_iff_eq.2 h2]
    obtain ⟨n0, n1, rfl⟩ : ∃ a b, ns = [a, b] := by
      match ns, h2 with
      | [a, b], _ => exact ⟨a, b, rfl⟩
    unfold V_i_ParseRooted_k5
    refine cond_t rfl ?_
    intro w10 hE10 _
    have hO10 := (hOn.ext hE10).rep hn64
    have hb10 := hb7.ext hE10
    have hE210 := hE27.trans hE10
    refine ⟨fun c => c = po.block, ?_⟩
    refine slr_ixW hO10 (i := 0) (by simp) fun p0 hp0 hc0 => ⟨fun he => by have : w6.heap.size ≤ p0.block := hp0; omega, LD_int hc0 ?_⟩
    refine slr_ixW hO10 (i := 1) (by simp) fun p1 hp1 hc1 => ⟨fun he => by have : w6.heap.size ≤ p1.block := hp1; omega, LD_int hc1 ?_⟩
    refine ⟨Chg.refl _ _, ST_boxC hb10 (i := 0) (by simp) rfl hE210 (by omega) fun w11 hC11 hE211 hb11 => ⟨hC11, ?_⟩⟩
    refine ST_boxC hb11 (i := 1) (by simp) rfl hE211 (by omega) fun w12 hC12 hE212 hb12 => ?_
    have hM12 := ((hM7.ext hE10).keep (w' := w11) fun k hk hk2 => hC11.block k hk2 fun he => by omega).keep (w' := w12) fun k hk hk2 => hC12.block k hk2 fun he => by omega
    have hs0 := hns.2 n0 (by simp)
    have hs1 := hns.2 n1 (by simp)
    refine IN_next (by omega) hi' ⟨hE212, ⟨n0, n1, q.lines⟩, z, ss, hb12, hM12, ?_, hr6, Nat.le_succ_of_le hqi, ?_⟩
    · intro a ha
      simp only [List.mem_cons, List.not_mem_nil, or_false] at ha
      rcases ha with rfl | rfl <;> omega
    · intro p hp1 hp2
      rcases hof2 p hp1 hp2 with ⟨rfl, _, h4⟩ | ⟨j, _, _, h3, _⟩
      · rw [hq p hp1 hp2]
        simp only [List.cons.injEq, and_true] at h4
        obtain ⟨rfl, rfl⟩ := h4
        rfl
      · exact absurd (heq.symm.trans h3) words_ne
  · have : i = L.length := by omega
    subst this
    have hqe : ∀ p, RoGood p → roTextS p = l → q = p := by
      intro p hp1 hp2
      rw [hq p hp1 hp2, ← hOf p hp1 hp2]
      have : (roLines p).length = p.lines.length + 1 := by simp [roLines]
      rw [this]
      show RPr.mk _ _ _ = _
      rw [List.take_length]
    have h64 : ∀ r ∈ q.lines, ∀ y ∈ r, I64 y := fun r hr y hy => by have := (hr6 r hr).1 y hy; show I64 _; unfold I64; omega
    have hi1 : I64 q.labels := by have := h6 q.labels (by simp); unfold I64; omega
    have hi2 : I64 q.children := by have := h6 q.children (by simp); unfold I64; omega
    have hR5 : RRo w5 z q := ⟨hi1, hi2, hM5.rep h64⟩
    refine LD_iis hb5 ?_
    refine call (IsRootedProblem_ok hR5) ?_
    rintro b w6 ⟨hb, hE6⟩
    refine cond_not (fun hf => no (hE2.trans (hE25.trans hE6)) fun p hp1 hp2 => ?_) (fun ht3 => ?_)
    · rw [hb.2 (hqe p hp1 hp2 ▸ hp1)] at hf; cases hf
    have hgd := hb.1 ht3
    refine LD_iis (hb5.ext hE6) ?_
    refine call (rootedText_ok (hg5.ext hE6).pow (hR5.ext hE6) hgd (by omega)) ?_
    rintro _ w7 ⟨rfl, hE7⟩
    have hE57 := hE6.trans hE7
    have hE27 := hE25.trans hE57
    refine cond_sne (fun hne => no (hE2.trans hE27) fun p hp1 hp2 => hne (hqe p hp1 hp2 ▸ hp2)) (fun heq => ?_)
    refine LD_iis (hb5.ext hE57) ?_
    have hbx := (hb1.ext hE2).ext hE27
    refine ST_all hbx (one3r q.labels q.children z) rfl fun w8 hs8 hz8 hb8 => LD_iis hb8 ?_
    have hzx := hb1.lt
    have hM8 := (hM5.ext hE57).keep (w' := w8) fun k hk hk2 => hs8.block k hk2 fun he => by cases he; omega
    exact ⟨hs8.ext0 (hE02.trans hE27) fun k hk => by cases hk; omega, q, rfl, rfl, ⟨⟨ss, hM8.low (by omega)⟩, h64, by omega, fun r hr => (hr6 r hr).2⟩, ⟨fun _ => ⟨hgd, heq⟩, fun h => by cases h⟩⟩

end Go.Proofs.YtnhidomgpbohiaaGreatDoor
end

section
/- Texts of rooted problems read: the reference's side; marks of the answer. -/
namespace Go.Proofs.YtnhidomgpbohiaaGreatDoor
open Go.GX Go.RowKit
set_option maxRecDepth 100000

theorem sParseRooted_ok {w : World} {l : List UInt8} (hl : l.length ≤ 1048576) :
    Calls Tryz.prog F.s_ParseRooted #[.string (mkS l)] w (Ret [.agg [.int .i64, .int .i64, .sl], .at .bool] fun (x : Int) (y : Int) (z : Sl) (ok : Bool) w' => Ext w w' ∧ ∃ q : RPr, x = q.labels ∧ y = q.children ∧ RRo w' z q ∧ PaAns l q ok) := by
  refine C_s_ParseRooted ?_
  unfold V_s_ParseRooted
  refine NEW_intro fun px w1 hp1 hs1 hE1 hb1 => ?_
  have no : ∀ {w' : World}, Ext w1 w' → (∀ p, RoGood p → roTextS p ≠ l) → GX.ST px 0 [.int .i64 0, .int .i64 0, .slice none 0 0] w' fun w'' => LD [.int .i64, .int .i64, .sl] px w'' fun (x : Int) (y : Int) (z : Sl) => Ext w w'' ∧ ∃ q : RPr, x = q.labels ∧ y = q.children ∧ RRo w'' z q ∧ PaAns l q false := by
    intro w' hE hn
    refine ST_all (vs := [.int .i64 0, .int .i64 0, .slice none 0 0]) (hb1.ext hE) (one3r 0 0 ⟨none, 0, 0⟩) rfl fun w'' hs hz hb => LD_iis (z := ⟨none, 0, 0⟩) hb ?_
    exact ⟨hs.ext0 (hE1.trans hE) fun k hk => by cases hk; omega, ⟨0, 0, []⟩, rfl, rfl, ⟨by show I64 0; unfold I64; omega, by show I64 0; unfold I64; omega, (OutM.nil w''.heap.size w'').rep⟩, ⟨(fun h => by cases h), fun _ => ⟨rfl, hn⟩⟩⟩
  refine call (l1Split_ok (l := l) (c := 10) (by omega)) ?_
  rintro sL w2 ⟨hE2, hOL⟩
  have hRL0 := hOL.rep (strs_ok _)
  have hLx := splitB_len 10 l
  have hLp := splitB_pos 10 l
  have hpc0 := fun y (hy : y ∈ splitB 10 l) => (splitB_mem hy).2
  have hOf0 : ∀ p, RoGood p → roTextS p = l → roLines p = (splitB 10 l).take ((splitB 10 l).length - 1) := fun p _ hp => by
    have e : splitB 10 l = roLines p ++ [[]] := by rw [← hp]; exact linesS_split (roLines_no10 p)
    rw [e]; simp
  refine NEW_intro fun po w4 hp4 hs4 hE4 hb4 => ?_
  have hz2 := hE2.size_le
  have hE02 := hE1.trans hE2
  have hsl : sL.len = (splitB 10 l).length := by have := hOL.1; simpa using this
  have ew : IntKind.i64.wrap ((sL.len : Int) - 1) = (((splitB 10 l).length - 1 : Nat) : Int) := by rw [hsl, wrap_of (by omega) (by omega)]; omega
  rw [ew]
  refine SlR.take hRL0 (i := (splitB 10 l).length - 1) (by rw [List.length_map]; omega) rfl fun sT hsT => ?_
  rw [← List.map_take] at hsT
  have hRL4 := hsT.any
  have hpc : ∀ y ∈ (splitB 10 l).take ((splitB 10 l).length - 1), y.length ≤ l.length := fun y hy => hpc0 y (List.mem_of_mem_take hy)
  have hLx' : ((splitB 10 l).take ((splitB 10 l).length - 1)).length ≤ l.length := by rw [List.length_take]; omega
  generalize (splitB 10 l).take ((splitB 10 l).length - 1) = L at hRL4 hpc hLx' hOf0
  have hOf := hOf0
  rw [hRL4.len, List.length_map]
  refine ⟨IN L.length fun i w' => Ext w2 w' ∧ ∃ (q : RPr) (z : Sl) (ss : List Sl), Box w' po T.t_i_RootedProblem [.int .i64 q.labels, .int .i64 q.children, z.v] ∧ RowsD w' w4.heap.size T.t_int T.t_sl_int z q.lines ss ∧ Six [q.labels, q.children] ∧ (∀ r ∈ q.lines, Six r ∧ r.length ≤ 1048576) ∧ q.lines.length ≤ i ∧ ∀ p, RoGood p → roTextS p = l → q = roPre p i,
    MN L.length, IN_zero ⟨hE4, ⟨0, 0, []⟩, ⟨none, 0, 0⟩, [], hb4, RowsD.nil _ _ _ _, by intro a ha; simp at ha; omega, by simp, by simp, fun p _ _ => rfl⟩, ?_⟩
  rintro _ w5 ⟨i, rfl, hi, hE25, q, z, ss, hb5, hM5, h6, hr6, hqi, hq⟩
  intros
  have hz25 := hE25.size_le
  have hz4 : w4.heap.size ≤ w5.heap.size := by have := hb5.lt; omega
  refine cond_dec (fun hlt => ?_) (fun hge => ?_)
  · have hi' : i < L.length := by omega
    have hLi := hpc _ (List.getElem_mem hi')
    refine (hRL4.ext hE25).ixS hi' fun pa hc => LD_str hc ?_
    rw [mk_lit [114, 111, 111, 116, 101, 100]]
    refine call (l1Split_ok (l := L[i]) (c := 32) (by omega)) ?_
    rintro sw w6 ⟨hE6, hOw⟩
    have hRw := (hOw.rep (strs_ok _)).any
    obtain ⟨wd, ws, hws⟩ := List.exists_cons_of_ne_nil (splitB_ne 32 L[i])
    have hwl := splitB_len 32 L[i]
    have hwm := fun y (hy : y ∈ splitB 32 L[i]) => (splitB_mem hy).2
    have hof : ∀ p, RoGood p → roTextS p = l → (i = 0 ∧ wd = wRooted ∧ ws = [p.labels, p.children].map numS) ∨ ∃ j, i = j + 1 ∧ ∃ h : j < p.lines.length, wd = wLine ∧ ws = (p.lines[j]).map numS := by
      intro p hp1 hp2
      have e := hOf p hp1 hp2
      have hi2 : i < (roLines p).length := by rw [e]; exact hi'
      have e2 : splitB 32 (roLines p)[i] = wd :: ws := by rw [← hws]; congr 1; simp only [e]
      rcases ro_line hi2 with ⟨h1, h2⟩ | ⟨j, h1, h3, h2⟩
      · rw [e2] at h2
        exact .inl ⟨h1, (List.cons.inj h2).1, (List.cons.inj h2).2⟩
      · rw [e2] at h2
        exact .inr ⟨j, h1, h3, (List.cons.inj h2).1, (List.cons.inj h2).2⟩
    rw [hws] at hRw hwl hwm
    have hRw' : R w6 sw (mkS wd :: ws.map mkS) := hRw
    refine slr_drop (i := 1) hRw' (by simp) rfl fun st hst => ?_
    have hst' : R w6 st (ws.map mkS) := by simpa using hst.any
    simp only [List.length_cons] at hwl
    refine call (maNumbers_ok hst' (by omega) fun y hy => by have := hwm y (by simp [hy]); omega) ?_
    rintro sn ok2 w7 ⟨hE7, hA⟩
    have hE57 := hE6.trans hE7
    have hE27 := hE25.trans hE57
    have hz6 := hE6.size_le
    have hz7 := hE7.size_le
    have hb7 := hb5.ext hE57
    have hM7 := hM5.ext hE57
    have hget0 : ∀ {K : Addr → Prop}, (∀ pa, w7.cell? pa = some (.string (mkS wd)) → K pa) → IX sw 0 1 K := fun hk => (SlR.ixS (L := wd :: ws) (i := 0) (hRw'.ext hE7) (by simp)) hk
    have hA0 : ok2 = false → ∀ p, RoGood p → roTextS p ≠ l := by
      intro hf p hp1 hp2
      rcases hA with ⟨hA, _⟩ | ⟨_, hA⟩
      · rw [hA] at hf; cases hf
      · rcases hof p hp1 hp2 with ⟨_, _, h3⟩ | ⟨j, _, hj, _, h3⟩
        · exact hA _ (h3 ▸ stars_of hp1.head)
        · exact hA _ (h3 ▸ stars_of (hp1.six _ (List.getElem_mem hj)))
    -- which numbers
    have hof2 : ∀ ns, StarsOf ws ns → ∀ p, RoGood p → roTextS p = l → (i = 0 ∧ wd = wRooted ∧ ns = [p.labels, p.children]) ∨ ∃ j, i = j + 1 ∧ ∃ h : j < p.lines.length, wd = wLine ∧ ns = p.lines[j] := by
      intro ns hns p hp1 hp2
      rcases hof p hp1 hp2 with ⟨h1, h2, h3⟩ | ⟨j, h1, hj, h2, h3⟩
      · exact .inl ⟨h1, h2, hns.unique (h3 ▸ stars_of hp1.head)⟩
      · exact .inr ⟨j, h1, hj, h2, hns.unique (h3 ▸ stars_of (hp1.six _ (List.getElem_mem hj)))⟩
    -- a row more
    have rowC : (ok2 = true → wd ≠ wLine → ∀ p, RoGood p → roTextS p ≠ l) → V_s_ParseRooted_k4 (IN L.length fun i w' => Ext w2 w' ∧ ∃ (q : RPr) (z : Sl) (ss : List Sl), Box w' po T.t_i_RootedProblem [.int .i64 q.labels, .int .i64 q.children, z.v] ∧ RowsD w' w4.heap.size T.t_int T.t_sl_int z q.lines ss ∧ Six [q.labels, q.children] ∧ (∀ r ∈ q.lines, Six r ∧ r.length ≤ 1048576) ∧ q.lines.length ≤ i ∧ ∀ p, RoGood p → roTextS p = l → q = roPre p i)
        (MN L.length) (i : Int) w5 (fun (x : Int) (y : Int) (z : Sl) (ok : Bool) w' => Ext w w' ∧ ∃ q : RPr, x = q.labels ∧ y = q.children ∧ RRo w' z q ∧ PaAns l q ok) px po sw sn ok2 false w7 := by
      intro hnr
      unfold V_s_ParseRooted_k4
      refine cond_f rfl ?_
      refine cond_b (fun ht2 => ?_) (fun hf2 => no (hE2.trans hE27) (hA0 hf2))
      rcases hA with ⟨_, ns, hns, hOn⟩ | ⟨hA, _⟩
      rotate_left
      · rw [hA] at ht2; cases ht2
      have hn64 : ∀ y ∈ ns, I64 y := fun y hy => by have := hns.2 y hy; show I64 _; unfold I64; omega
      have hnl : ns.length = ws.length := by rw [← hns.1, List.length_map]
      refine hget0 fun pa hc => LD_str hc ?_
      rw [mk_lit [108, 105, 110, 101]]
      refine cond_seq (a := wd) (b := wLine) (fun heq => ?_) (fun hne => no (hE2.trans hE27) (hnr ht2 hne))
      refine LD_bs2 hb7 ?_
      refine RUN_lit1 (α := Sl) slt_rows sn rfl (by decide) fun y8 w8 hE8 hO8 => ?_
      have hz8 := hE8.size_le
      have hM8 := hM7.ext hE8
      refine RUN_append_rowD slt_rows (by decide) hM8 (by omega) ((hOn.ext hE8).low (by omega)) (fun j r hr k hk => (hM5.ext hE6).fresh hOn (Nat.le_refl _) j r hr k hk) hO8 (by omega) (by unfold maxLen; omega) fun t9 w9 hM9 hs9 => ?_
      have hnt : ¬ oB z po.block := fun hh => by have := (hM8.own.blk _ hh).1; omega
      have hb8 := hb7.ext hE8
      have hb9 : Box w9 po T.t_i_RootedProblem [.int .i64 q.labels, .int .i64 q.children, z.v] := hb8.chg (Chg.of_step (D := oB z) hs9 fun k hk => hk) hnt
      have hE29 : Ext w2 w9 := hs9.ext0 (hE27.trans hE8) fun k hk => by have := (hM8.own.blk k hk).1; omega
      refine ST_boxC hb9 (by simp) rfl hE29 (by omega) fun w10 hC10 hE210 hb10 => ?_
      have hM10 := hM9.keep (w' := w10) fun k hk hk2 => hC10.block k hk2 fun he => by omega
      unfold V_s_ParseRooted_k3
      refine IN_next (by omega) hi' ⟨hE210, ⟨q.labels, q.children, q.lines ++ [ns]⟩, t9, ss ++ [sn], hb10, hM10, h6, ?_, ?_, ?_⟩
      · intro r hr
        rcases List.mem_append.1 hr with hr | hr
        · exact hr6 r hr
        · rw [List.mem_singleton.1 hr]; exact ⟨hns.2, by omega⟩
      · simp only [List.length_append, List.length_cons, List.length_nil]; omega
      · intro p hp1 hp2
        rcases hof2 ns hns p hp1 hp2 with ⟨_, h3, _⟩ | ⟨j, rfl, hj, _, h4⟩
        · exact absurd (h3.symm.trans heq) words_ne
        · rw [hq p hp1 hp2, h4]
          show RPr.mk _ _ _ = RPr.mk _ _ _
          rw [List.take_succ_eq_append_getElem hj]; rfl
    refine cond_b (fun ht2 => ?_) (fun hf2 => rowC fun h => by rw [hf2] at h; cases h)
    have hA' := hA
    rcases hA' with ⟨_, ns, hns, hOn⟩ | ⟨hA', _⟩
    rotate_left
    · rw [hA'] at ht2; cases ht2
    have hn64 : ∀ y ∈ ns, I64 y := fun y hy => by have := hns.2 y hy; show I64 _; unfold I64; omega
    refine cond_eq (fun h0 => ?_) (fun h0 => rowC fun _ hne p hp1 hp2 => ?_)
    rotate_left
    · rcases hof2 ns hns p hp1 hp2 with ⟨h1, _, _⟩ | ⟨_, _, _, h3, _⟩
      · exact h0 (by omega)
      · exact hne h3
    refine hget0 fun pa hc => LD_str hc ?_
    refine cond_seq (a := wd) (b := wRooted) (fun heq => ?_) (fun hne => rowC fun _ hne2 p hp1 hp2 => ?_)
    rotate_left
    · rcases hof2 ns hns p hp1 hp2 with ⟨_, h1, _⟩ | ⟨_, _, _, h3, _⟩
      · exact hne h1
      · exact hne2 h3
    rw [hOn.1]
    by_cases h2 : (ns.length : Int) = 2
    rotate_left
    · rw [beq_eq_false_iff_ne.2 h2]
      refine rowC fun _ hne2 p hp1 hp2 => ?_
      rcases hof2 ns hns p hp1 hp2 with ⟨_, _, h4⟩ | ⟨_, _, _, h3, _⟩
      · exact h2 (by rw [h4]; rfl)
      · exact hne2 h3
    rw [beq_iff_eq.2 h2]
    obtain ⟨n0, n1, rfl⟩ : ∃ a b, ns = [a, b] := by
      match ns, h2 with
      | [a, b], _ => exact ⟨a, b, rfl⟩
    unfold V_s_ParseRooted_k4
    refine cond_t rfl ?_
    have hO7 := hOn.rep hn64
    refine slr_ixW hO7 (i := 0) (by simp) fun p0 hp0 hc0 => LD_int hc0 ?_
    refine ST_boxC hb7 (i := 0) (by simp) rfl hE27 (by omega) fun w11 hC11 hE211 hb11 => ?_
    have hO11 := hO7.chg hC11 fun b hb _ he => by omega
    refine slr_ixW hO11 (i := 1) (by simp) fun p1 hp1 hc1 => LD_int hc1 ?_
    refine ST_boxC hb11 (i := 1) (by simp) rfl hE211 (by omega) fun w12 hC12 hE212 hb12 => ?_
    have hM12 := (hM7.keep (w' := w11) fun k hk hk2 => hC11.block k hk2 fun he => by omega).keep (w' := w12) fun k hk hk2 => hC12.block k hk2 fun he => by omega
    have hs0 := hns.2 n0 (by simp)
    have hs1 := hns.2 n1 (by simp)
    unfold V_s_ParseRooted_k3
    refine IN_next (by omega) hi' ⟨hE212, ⟨n0, n1, q.lines⟩, z, ss, hb12, hM12, ?_, hr6, Nat.le_succ_of_le hqi, ?_⟩
    · intro a ha
      simp only [List.mem_cons, List.not_mem_nil, or_false] at ha
      rcases ha with rfl | rfl <;> omega
    · intro p hp1 hp2
      rcases hof2 _ hns p hp1 hp2 with ⟨rfl, _, h4⟩ | ⟨j, _, _, h3, _⟩
      · rw [hq p hp1 hp2]
        simp only [List.cons.injEq, and_true] at h4
        obtain ⟨rfl, rfl⟩ := h4
        rfl
      · exact absurd (heq.symm.trans h3) words_ne
  · have : i = L.length := by omega
    subst this
    have hqe : ∀ p, RoGood p → roTextS p = l → q = p := by
      intro p hp1 hp2
      rw [hq p hp1 hp2, ← hOf p hp1 hp2]
      have : (roLines p).length = p.lines.length + 1 := by simp [roLines]
      rw [this]
      show RPr.mk _ _ _ = _
      rw [List.take_length]
    have h64 : ∀ r ∈ q.lines, ∀ y ∈ r, I64 y := fun r hr y hy => by have := (hr6 r hr).1 y hy; show I64 _; unfold I64; omega
    have hi1 : I64 q.labels := by have := h6 q.labels (by simp); unfold I64; omega
    have hi2 : I64 q.children := by have := h6 q.children (by simp); unfold I64; omega
    have hR5 : RRo w5 z q := ⟨hi1, hi2, hM5.rep h64⟩
    refine LD_iis hb5 ?_
    refine call (roGood_ok hR5) ?_
    rintro b w6 ⟨hb, hE6⟩
    refine cond_not (fun hf => no (hE2.trans (hE25.trans hE6)) fun p hp1 hp2 => ?_) (fun ht3 => ?_)
    · rw [hb.2 (hqe p hp1 hp2 ▸ hp1)] at hf; cases hf
    have hgd := hb.1 ht3
    refine LD_iis (hb5.ext hE6) ?_
    refine call (roText_ok (hR5.ext hE6) hgd (by omega)) ?_
    rintro _ w7 ⟨rfl, hE7⟩
    have hE57 := hE6.trans hE7
    have hE27 := hE25.trans hE57
    refine cond_sne (fun hne => no (hE2.trans hE27) fun p hp1 hp2 => hne (hqe p hp1 hp2 ▸ hp2)) (fun heq => ?_)
    refine LD_iis (hb5.ext hE57) ?_
    have hbx := (hb1.ext hE2).ext hE27
    refine ST_all hbx (one3r q.labels q.children z) rfl fun w8 hs8 hz8 hb8 => LD_iis hb8 ?_
    have hzx := hb1.lt
    have hM8 := (hM5.ext hE57).keep (w' := w8) fun k hk hk2 => hs8.block k hk2 fun he => by cases he; omega
    exact ⟨hs8.ext0 (hE02.trans hE27) fun k hk => by cases hk; omega, q, rfl, rfl, ⟨hi1, hi2, hM8.rep h64⟩, ⟨fun _ => ⟨hgd, heq⟩, fun h => by cases h⟩⟩

end Go.Proofs.YtnhidomgpbohiaaGreatDoor
end

section
/- Rooted problems as answers: held against each other, marked. -/
namespace Go.Proofs.YtnhidomgpbohiaaGreatDoor
open Go.GX Go.RowKit
set_option maxRecDepth 100000

theorem eqRo_ok {w : World} {s t : Sl} {p : RPr} (h : RRo w s p) (h' : RRo w t p) :
    Calls Tryz.prog F.l_eqRootedProblem #[.agg #[.int .i64 p.labels, .int .i64 p.children, s.v], .agg #[.int .i64 p.labels, .int .i64 p.children, t.v]] w (Ret [.at .bool] fun (x : Bool) w' => x = true ∧ Ext w w') := by
  refine C_l_eqRootedProblem ?_
  unfold V_l_eqRootedProblem
  refine NEW_intro fun pa w1 hp1 hs1 hE1 hb1 => NEW_intro fun pb w2 hp2 hs2 hE2 hb2 => ?_
  have ha := hb1.ext hE2
  have hE := hE1.trans hE2
  refine LD_bi0 ha (LD_bi0 hb2 (cond_ne (fun h => absurd rfl h) (fun _ => LD_bi1 ha (LD_bi1 hb2 (cond_ne (fun h => absurd rfl h) (fun _ => LD_bs2 ha (LD_bs2 hb2 ?_)))))))
  refine call (eqIntSS_ok (h.lines.ext hE) (h'.lines.ext hE)) ?_
  rintro _ w3 ⟨rfl, hE3⟩
  exact cond_f (by simp) ⟨rfl, hE.trans hE3⟩

theorem rbIn {base : Nat} {w : World} {s : Sl} {L : List (List Int)} {ss : List Sl} (h : RowsD w base T.t_int T.t_sl_int s L ss) {b : Nat} (hb : RB ss b) : base ≤ b ∧ b < w.heap.size := by
  obtain ⟨r, hr, hrb⟩ := hb
  obtain ⟨i, hi, rfl⟩ := List.mem_iff_getElem.1 hr
  have hiL : i < L.length := by rw [← h.len]; exact hi
  exact (h.row i _ _ (List.getElem?_eq_getElem hi) (List.getElem?_eq_getElem hiL)).blk b hrb

theorem markRo_ok {base top : Nat} {w0 w : World} {s : Sl} {p : RPr} (h : OutM base w0 s p.lines) (ht : w0.heap.size = top) (hE : Ext w0 w) :
    Calls Tryz.prog F.l_markRootedProblem #[.agg #[.int .i64 p.labels, .int .i64 p.children, s.v], .int .i64 1] w (Ret [.at (.int .i64)] fun (r : Int) w' => r = 1 + pre p.lines p.lines.length ∧ R w' s (marks2 1 p.lines) ∧ Chg w w' (fun b => base ≤ b ∧ b < top)) := by
  refine C_l_markRootedProblem ?_
  unfold V_l_markRootedProblem
  refine NEW_intro fun pa w1 hp1 hs1 hE1 hb1 => LD_bs2 hb1 ?_
  obtain ⟨ss, hM⟩ := h.ex
  refine call (markIntSS_rows ((hM.ext hE).ext hE1) h.rows h.small 1 (by omega) (by omega)) ?_
  rintro k1 w2 ⟨rfl, hM2, hC2⟩
  exact ⟨rfl, hM2.rep (marks2_I64 (by omega) (by omega) h.rows h.small), (Chg.of_ext hE1).trans (hC2.mono fun b hb => by have := rbIn hM hb; omega)⟩

theorem heldRo_ok {w : World} {s : Sl} {x y : Int} {L : List (List Int)} (h : R w s (marks2 1 L)) (hl : L.length ≤ 1048576) (hll : ∀ r ∈ L, r.length ≤ 1048576) :
    Calls Tryz.prog F.l_heldRootedProblem #[.agg #[.int .i64 x, .int .i64 y, s.v], .int .i64 1] w (Ret [.at (.int .i64)] fun (r : Int) w' => r = 1 + pre L L.length ∧ Ext w w') := by
  refine C_l_heldRootedProblem ?_
  unfold V_l_heldRootedProblem
  have hp := pre_le hll _ (Nat.le_refl _)
  refine NEW_intro fun pa w1 hp1 hs1 hE1 hb1 => LD_bs2 hb1 ?_
  refine call (heldIntSS_ok 1 (h.ext hE1) (by omega) (by omega) hl hll) ?_
  rintro _ _ ⟨rfl, rfl⟩
  exact cond_df (by omega) ⟨rfl, hE1⟩

end Go.Proofs.YtnhidomgpbohiaaGreatDoor
end

section
/- The walk of the law FnExactParseRooted. -/
namespace Go.Proofs.YtnhidomgpbohiaaGreatDoor
open Go.GX Go.RowKit
set_option maxRecDepth 100000
set_option maxHeartbeats 800000

theorem fnExactParseRooted_ok {w : World} (g : GV w) (l : List UInt8) :
    Calls Tryz.prog F.l_FnExactParseRooted #[.string (mkS l)] w (Ret [.at .bool] fun (x : Bool) w' => x = true ∧ Ext w w') := by
  refine C_l_FnExactParseRooted ?_
  unfold V_l_FnExactParseRooted
  rw [mkS_size]
  refine cond_dec (fun _ => ⟨rfl, Ext.refl _⟩) (fun hl0 => ?_)
  have hl : l.length ≤ 1048576 := by omega
  refine call (sParseRooted_ok hl) ?_
  rintro _ _ zs oks w1 ⟨hE1, qs, rfl, rfl, hRs, hAs⟩
  refine NEW_ST (one3r qs.labels qs.children zs) rfl fun p3 w3 hp3 hE3 hb3 => ?_
  have hE03 := hE1.trans hE3
  refine call (ParseRooted_ok (g.ext hE03) hl) ?_
  rintro _ _ zi oki w4 ⟨hE4, qi, rfl, rfl, hMi, hAi⟩
  obtain ⟨rfl, rfl⟩ := hAs.eq hAi
  have hRi : RRo w4 zi qs := ⟨hRs.lab, hRs.chi, hMi.rep⟩
  refine NEW_ST (one3r qs.labels qs.children zi) rfl fun p5 w6 hp5 hE6 hb5 => ?_
  have hE36 := hE4.trans hE6
  have hz3 := hE3.size_le
  have hz4 := hE4.size_le
  have hz6 := hE6.size_le
  refine LD_iis hb5 (LD_iis (hb3.ext hE36) ?_)
  refine call (eqRo_ok (hRi.ext hE6) ((hRs.ext hE3).ext hE36)) ?_
  rintro _ w7 ⟨rfl, hE7⟩
  refine cond_f rfl (cond_f (by simp) ?_)
  unfold V_l_FnExactParseRooted_k2
  refine LD_iis (hb5.ext hE7) ?_
  refine call (markRo_ok hMi rfl (hE6.trans hE7)) ?_
  rintro mk w8 ⟨hmk, hMk, hC8⟩
  have hb58 := (hb5.ext hE7).chg hC8 fun hd => by omega
  have hE38 : Ext w3 w8 := hC8.extR (hE36.trans hE7) (Nat.le_refl _)
  refine LD_iis hb58 ?_
  refine call (heldRo_ok hMk hMi.rows hMi.small) ?_
  rintro _ w9 ⟨rfl, hE9⟩
  have hpl := pre_le hMi.small _ (Nat.le_refl _)
  refine cond_df (by omega) (cond_ne (fun hne => absurd hmk.symm hne) fun _ => ?_)
  have hE39 := hE38.trans hE9
  refine call (ParseRooted_ok (g.ext (hE03.trans hE39)) hl) ?_
  rintro _ _ zj okj w10 ⟨hE10, qj, rfl, rfl, hMj, hAj⟩
  obtain ⟨rfl, rfl⟩ := hAs.eq hAj
  have hRj : RRo w10 zj qs := ⟨hRs.lab, hRs.chi, hMj.rep⟩
  refine NEW_ST (one3r qs.labels qs.children zj) rfl fun p9 w12 hp9 hE12 hb9 => ?_
  have hE9_12 := hE10.trans hE12
  refine LD_iis hb9 (LD_iis ((hb3.ext hE39).ext hE9_12) ?_)
  refine call (eqRo_ok (hRj.ext hE12) (((hRs.ext hE3).ext hE39).ext hE9_12)) ?_
  rintro _ w14 ⟨rfl, hE14⟩
  have hE8_14 := hE9.trans (hE9_12.trans hE14)
  refine cond_f rfl (cond_f (by simp) ?_)
  refine LD_iis (hb58.ext hE8_14) ?_
  refine call (heldRo_ok (hMk.ext hE8_14) hMi.rows hMi.small) ?_
  rintro _ w16 ⟨rfl, hE16⟩
  refine cond_df (by omega) (cond_ne (fun hne => absurd hmk.symm hne) fun _ => ?_)
  exact ⟨rfl, ((hE03.trans hE38).trans hE8_14).trans hE16⟩

end Go.Proofs.YtnhidomgpbohiaaGreatDoor
end

section
/- Arguments that come in, read as data: from the statements' own reading of memory to the rules' reading. No program is named here. -/
namespace Go.GX
open Go.RowKit Go.WideShapes Go.ChangeShapes Go.ChangeAt Go.Deep

/-- Whatever the statements read at type t is data of α in memory. -/
def Reads (P : Program) (t : TypeId) (α : Type) [Rep α] : Prop :=
  ∀ {H : Type} {enc : TypeId × Value → H} {w : World} {base : Nat} {spare : Nat → Bool} {held : Bool} {fuel : Nat} {cs : List Value} {x : DataW H × List MemPlace},
    DataW.trod enc P w base spare held fuel t cs = some x → ∃ a : α, Rep.rep (fun _ => True) w cs a

theorem Reads.int {P : Program} {t : TypeId} (ht : P.underlying t = some (.int .i64)) : Reads P t Int := fun h => by
  obtain ⟨n, rfl, _, hn⟩ := DataW.trod_int ht h
  exact ⟨n, rfl, bounds_i64 hn⟩

theorem Reads.slice {P : Program} {t e : TypeId} {α : Type} [RepP α] (ht : P.underlying t = some (.slice e)) (hc : P.cellsOf e = Rep.sz α) (he : Reads P e α) : Reads P t (List α) := by
  intro H enc w base spare held fuel cs x h
  rcases open_slice ht h with ⟨rfl, _⟩ | ⟨a, len, cap, m, n, D, Pl, rfl, hb, hl, hm, hmm, _, hx⟩
  · exact ⟨[], ⟨none, 0, 0⟩, rfl, rfl, ⟨Nat.le_refl _, Nat.zero_le _⟩, fun i x hx => by simp at hx⟩
  · have hlm : len ≤ m := by rw [hmm]; split <;> omega
    have hall : ∀ i : Fin len, ∃ z : α, ∃ cs', Rep.rep (fun _ => True) w cs' z ∧ ∀ j v, cs'[j]? = some v → w.cell? (a.add (i.1 * Rep.sz α + j)) = some v := fun i => by
      obtain ⟨cs', h1, h2⟩ := hx i.1 (by omega)
      obtain ⟨z, hz⟩ := he h2
      refine ⟨z, cs', hz, fun j v hj => ?_⟩
      obtain ⟨_, hlen, hcell⟩ := World.cells?_some h1
      have hj' : j < cs'.length := (List.getElem?_eq_some_iff.1 hj).1
      have := hcell j (by omega)
      rw [hj, add_add, hc] at this
      exact this
    refine ⟨List.ofFn fun i => (hall i).choose, ⟨some a, len, cap⟩, rfl, by simp, ⟨hl, by simpa [maxLen] using hm⟩, fun i x hx => ?_⟩
    rw [List.getElem?_ofFn] at hx
    split at hx
    · rename_i hi
      simp at hx
      subst hx
      obtain ⟨cs', h1, h2⟩ := (hall ⟨i, hi⟩).choose_spec
      exact ⟨a, cs', rfl, trivial, h1, h2⟩
    · cases hx

/-- Arguments read again behind a call that wrote nothing of theirs. -/
theorem trodAll_stays {P : Program} (hl : laidOutB P = true) {H : Type} {enc : TypeId × Value → H} {W W' : World} (hb : Below W.heap.size W W') : ∀ (ts : List TypeId) (vs : List Value) (ds : List (DataW H)) (p : List MemPlace),
    (ts.all fun t => P.readableRec t && decide (t < P.types.size)) = true → DataW.TrodAll enc P W 0 (fun _ => true) true ts vs ds p → DataW.TrodAll enc P W' 0 (fun b => decide (b < W.heap.size)) true ts vs ds p
  | [], vs, ds, p, _, h => by
    obtain ⟨rfl, rfl, rfl⟩ := trodAll_nil h
    exact trodAll_mk0
  | t :: ts, vs, ds, p, ha, h => by
    simp only [List.all_cons, Bool.and_eq_true, decide_eq_true_eq] at ha
    obtain ⟨v, vs', d, ds', p', q', rfl, rfl, rfl, h1, h2⟩ := trodAll_cons h
    refine trodAll_cons_mk (Below.trod hl ha.1.1 ha.1.2 h1 hb ?_) (trodAll_stays hl hb ts vs' ds' q' ha.2 h2)
    obtain ⟨m, hm⟩ := h1
    exact DataW.trod_lt m _ _ _ hm

end Go.GX
end

section
/- The laws' arguments read as data: the types of this program. -/
namespace Go.Proofs.YtnhidomgpbohiaaGreatDoor
open Go.GX Go.RowKit
set_option maxRecDepth 100000

theorem laidOut : laidOutB Tryz.prog = true := by kernel_rfl

variable {H : Type} {enc : TypeId × Value → H} {w : World} {base b0 : Nat} {spare : Nat → Bool} {held : Bool} {r : Go.Reach} {v : Value} {d : DataW H} {p : List MemPlace}

end Go.Proofs.YtnhidomgpbohiaaGreatDoor
end

section
/- Facts of this seat's program that every claim's last step asks for, each computed once (together they need more memory than a text may use). -/
namespace Go.Proofs.YtnhidomgpbohiaaGreatDoor


theorem door_enters : Tryz.pinned.checked.prog.mayEnter = true := by kernel_rfl

theorem door_lifts : Tryz.pinned.checked.prog.liftsFinal = false := by kernel_rfl

theorem door_heard : Tryz.pinned.checked.prog.stopsHeard = true := by kernel_rfl

theorem door_laid : laidOutB Tryz.pinned.checked.prog = true := by kernel_rfl

theorem door_maps : mapsRowed Tryz.pinned.checked.prog = true := by kernel_rfl

end Go.Proofs.YtnhidomgpbohiaaGreatDoor
end

section
/- The frame of a card: a contract at a world that has its shape and the listed variables. No program is named here. -/
namespace Go
open Go.ChangeShapes
variable {H : Type} {enc : TypeId × Value → H}

theorem handed_tied {a : Assume} {C : Checked} {os : Os} {f : FuncId} {fn : Func} {s : ChangeSpec} {conds : List PathCond} {apart fresh handsOn again : Bool} {X : World → Array Value → Prop}
    (hX : ∀ (w w' : World) (args : Array Value), w.heap = w'.heap → X w args → X w' args)
    (own : ownKnob C.prog.godebug = none) (started : os.Started) (noInit : C.prog.inits.idxOf? f = none) (hfn : C.prog.funcs[f]? = some fn)
    (witness : ∃ (w : World) (tape : Tape) (i : Input), w.os = os ∧ (w.forCall tape i).Shaped C.prog ∧ i.vars = [] ∧ Input.okWide C.prog (w.forCall tape i) .any w.heap.size f i ∧
      ((s.pre enc C.prog fn conds apart (w.forCall tape i).memory i.args ∧ X (w.forCall tape i).memory i.args) ∧ sizedMet enc C.prog fn (OpenSpec.ofChange s) apart (w.forCall tape i).memory i.args) ∧ a.holds C.prog (lone (Frame.enter C.prog f i.args .normal) [] (w.forCall tape i)))
    (contract : ∀ (W : World) (base : Nat) (args : Array Value) (ds gs : List (DataW H)) (before : List MemPlace),
      (∀ (j : Nat) t v, fn.params[j]? = some t → args[j]? = some v → Value.okWide C.prog W .any base t v) →
      DataW.Whole enc C.prog fn.params.toList s.vars apart W args.toList ds gs before →
      conds.all (PathCond.test C.prog ⟨fn.params.toList, ds, s.plain.varTypes C.prog, gs⟩) = true →
      (DataW.weightsEach C.prog (fn.params.toList ++ s.plain.varTypes C.prog) (ds ++ gs)).all (· ≤ reachBytes) = true → X W args → W.ShapedOpen C.prog →
      a.holds C.prog (lone (Frame.enter C.prog f args .normal) [] W) →
      Calls C.prog f args W fun e W' => ∃ v, e = .returned v ∧ s.post enc C.prog fn apart fresh handsOn again W args v W') :
    ReturnsInHanded a C os f .any (fun w args => (s.pre enc C.prog fn conds apart w args ∧ X w args) ∧ sizedMet enc C.prog fn (OpenSpec.ofChange s) apart w args) (s.post enc C.prog fn apart fresh handsOn again) := by
  refine returnsInHanded_of_calls own started noInit witness ?_
  intro w tape i _ hsh _ hok hpre hholds
  obtain ⟨_, _, _, fn', hfn', _, _, _, _, hval⟩ := hok
  have e : fn' = fn := Option.some.inj (hfn'.symm.trans hfn)
  subst e
  obtain ⟨⟨⟨ds, gs, before, hw, hc⟩, hx⟩, hz⟩ := hpre
  have hw' := DataW.Whole.of_heap (w' := w.forCall tape i) (by rfl) hw
  refine (contract (w.forCall tape i) w.heap.size i.args ds gs before hval hw' hc (hz.weights hw) (hX _ _ _ (by rfl) hx) hsh hholds).mono fun e W' ⟨v, he, hp⟩ => ?_
  subst he
  exact ChangeSpec.post_blind hp

theorem laidMet_tail {P : Program} {x : String × DataW Unit} {rest : List (String × DataW Unit)} {w : World} (h : laidMet P (x :: rest) w) : laidMet P rest w := by
  obtain ⟨ps, ⟨g, t, cs, f, p, q, _, _, _, _, hr, rfl⟩, hn, ha⟩ := h
  exact ⟨q, hr, (List.nodup_append.1 hn).2.1, fun b off hb => ha b off (List.mem_append.2 (.inr hb))⟩

/-- Is a variable a table of numbers of one kind? -/
def tabOkB (P : Program) (name : String) (k : IntKind) (n : Nat) : Bool :=
  match P.globalNamed name with
  | some g => match (P.globals[g]?).map (·.type) with
    | some t => match P.underlying t with
      | some (.array m e) => Nat.beq m n && (match P.underlying e with | some (.int k') => decide (k' = k) | _ => false) && Nat.beq (P.cellsOf e) 1 && Nat.beq (P.cellsOf t) n
      | _ => false
    | none => false
  | none => false

theorem tabIs_of_laid {P : Program} {W : World} {name : String} {k : IntKind} {zs : List Int} {n : Nat} {d : DataW Unit} {rest : List (String × DataW Unit)} (hb : tabOkB P name k n = true) (hd : d = Lib.tabData k zs)
    (h : laidMet P ((name, d) :: rest) W) : Lib.TabIs P W name k zs := by
  subst hd
  unfold tabOkB at hb
  split at hb
  · rename_i g hg
    split at hb
    · rename_i t ht
      split at hb
      · rename_i m e hu
        simp only [Bool.and_eq_true] at hb
        obtain ⟨⟨⟨h1, h2⟩, h3⟩, h4⟩ := hb
        have e1 := Nat.eq_of_beq_eq_true h1
        have e3 := Nat.eq_of_beq_eq_true h3
        have e4 := Nat.eq_of_beq_eq_true h4
        subst e1
        split at h2
        · rename_i k' hk
          have := of_decide_eq_true h2
          subst this
          exact Lib.tabIs_of_head hg ht hu hk e3 e4 h
        · cases h2
      · cases hb
    · cases hb
  · cases hb

def ifaceOkB (P : Program) (name : String) (g : Nat) : Bool :=
  match P.globalNamed name with
  | some g' => Nat.beq g' g && (match (P.globals[g']?).map (·.type) with
    | some t => match P.underlying t with
      | some (.interface _) => true
      | _ => false
    | none => false)
  | none => false

theorem iface_of_laid {P : Program} {W : World} {name nm : String} {d : DataW Unit} {g : Nat} {rest : List (String × DataW Unit)} (hb : ifaceOkB P name g = true) (h : laidMet P ((name, .iface nm d) :: rest) W) :
    ∃ u v, W.cell? ⟨g, 0, none⟩ = some (.iface u v) := by
  unfold ifaceOkB at hb
  split at hb
  · rename_i g' hg
    simp only [Bool.and_eq_true] at hb
    obtain ⟨h1, h2⟩ := hb
    have e1 := Nat.eq_of_beq_eq_true h1
    subst e1
    split at h2
    · rename_i t ht
      split at h2
      · rename_i ms hu
        obtain ⟨ps, ⟨g0, t0, cs0, f0, p0, q0, hg0, ht0, hv0, hd0, _, e0⟩, _, hrows⟩ := h
        obtain rfl := Option.some.inj (hg.symm.trans hg0)
        obtain rfl := Option.some.inj (ht.symm.trans ht0)
        obtain ⟨_, u, v, hcs, _, _⟩ := iface_of_trod hu hd0
        refine ⟨u, v, ?_⟩
        have := World.var?_cell hg0 hv0 0
        rw [this]
        obtain ⟨l⟩ := cs0
        simp only at hcs
        subst hcs
        rfl
      · cases h2
    · cases h2
  · cases hb

end Go
end
