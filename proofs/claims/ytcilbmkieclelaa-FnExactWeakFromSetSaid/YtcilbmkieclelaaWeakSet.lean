/- WeakFromSet: both sides. -/
import Derived.Test.YtcilbmkieclelaaMax
import Derived.Test.YtcilbmkieclelaaMark
namespace Go.Proofs.Ytcilbmkieclelaa
open Go.GX Go.RowKit
set_option maxRecDepth 100000

/-- Ones at the places that a list names. -/
def onesAt (k : Nat) (l : List Int) : List Int := l.foldl (fun o x => o.set x.toNat 1) (List.replicate k 0)

theorem onesAt_len (k : Nat) (l : List Int) : (onesAt k l).length = k := by
  unfold onesAt
  have : ∀ (o : List Int), (l.foldl (fun o x => o.set x.toNat 1) o).length = o.length := by
    induction l with
    | nil => intro o; rfl
    | cons x r ih => intro o; simp [ih]
  rw [this]; simp

theorem onesAt_snoc (k : Nat) (l : List Int) (x : Int) : onesAt k (l ++ [x]) = (onesAt k l).set x.toNat 1 := by simp [onesAt]

theorem onesAt_mem (k : Nat) (l : List Int) : ∀ x ∈ onesAt k l, x = 0 ∨ x = 1 := by
  unfold onesAt
  have : ∀ (o : List Int), (∀ x ∈ o, x = 0 ∨ x = 1) → ∀ x ∈ l.foldl (fun o x => o.set x.toNat 1) o, x = 0 ∨ x = 1 := by
    induction l with
    | nil => intro o h; exact h
    | cons y r ih =>
      intro o h
      refine ih _ fun x hx => ?_
      rcases List.mem_or_eq_of_mem_set hx with h1 | h1
      · exact h x h1
      · exact .inr h1
  exact this _ fun x hx => .inl (List.eq_of_mem_replicate hx)

theorem onesAt_I64 (k : Nat) (l : List Int) : ∀ x ∈ onesAt k l, I64 x := fun x hx => by
  rcases onesAt_mem k l x hx with rfl | rfl <;> (unfold I64; omega)

structure WeakAsked (n : Net) (l : List Int) : Prop where
  set : SetOk n l
  max : MaxIndep n.ends l

theorem WeakFromSet_ok {w : World} {a b c s : Sl} {n : Net} {l : List Int} (h : RNet w a b c n) (hl : R w s l) (hn : Small n) :
    Calls Try.prog F.i_WeakFromSet #[.agg #[a.v, b.v, c.v], s.v] w (Ret [.at .sl, .at .bool] fun (r : Sl) (y : Bool) w' => Ext w w' ∧ ∃ m, OutL w.heap.size w' r m ∧ AnsG (WeakAsked n l) (onesAt n.ends.length l) [] m y) := by
  refine C_i_WeakFromSet ?_
  unfold V_i_WeakFromSet
  refine NEW_intro fun p w1 hp hs hE hb1 => LD_box3 hb1 ?_
  replace h := h.ext hE
  replace hl := hl.ext hE
  refine call (IsMaximalIndependent_ok h hl hn) ?_
  rintro x y w2 ⟨hx, hE2⟩
  replace h := h.ext hE2
  replace hl := hl.ext hE2
  replace hb1 := hb1.ext hE2
  replace hE := hE.ext hE2
  refine cond_not (fun hf => ⟨hE, [], OutL.nil _ _, .no fun hg => ?_⟩) (fun ht => ?_)
  · rw [hx.2.2 hg.set] at hf; cases hf
  refine cond_not (fun hf => ⟨hE, [], OutL.nil _ _, .no fun hg => ?_⟩) (fun ht2 => ?_)
  · rw [hx.1.2 ⟨hg.set, hg.max⟩] at hf; cases hf
  have hS := hx.2.1 ht
  have hM := (hx.1.1 ht2).2
  have h40 := hS.good.size.2
  refine LD_bs0 hb1 ?_
  rw [h.1.len, hl.len]
  refine RUN_make (α := Int) slt_int (d := 0) rfl (by omega) (by unfold maxLen; omega) fun r w3 hE3 hO3 => ?_
  refine ⟨IN l.length fun i w' => Ext w2 w' ∧ OwnL w' w2.heap.size T.t_int r (onesAt n.ends.length (l.take i)), MN l.length, IN_zero ⟨hE3, by simpa [onesAt] using hO3⟩, ?_⟩
  rintro _ w4 ⟨i, rfl, hi, hE4, hO⟩
  intros
  refine cond_dec (fun hlt => ?_) (fun hge => ?_)
  · have hi' : i < l.length := by omega
    refine (hl.ext hE4).ixI hi' fun q _ hc => LD_int hc ?_
    obtain ⟨u, hu, hul⟩ := hS.node _ (List.getElem_mem hi')
    rw [hu]
    refine IX_own hO (by rw [onesAt_len]; exact hul) rfl fun q hq => ?_
    refine ST_own hO (by rw [onesAt_len]; exact hul) hq (1 : Int) rfl fun w5 hO5 hs5 => ?_
    refine IN_next hl.le hi' ⟨hs5.ext0 hE4 (fun k hk => (hO.blk k hk).1), ?_⟩
    rw [List.take_succ_eq_append_getElem hi', onesAt_snoc, hu]
    exact hO5
  · have : i = l.length := by omega
    subst this
    rw [List.take_length] at hO
    exact ⟨hE.trans hE4, _, ⟨hO.low hE.size_le, onesAt_I64 _ _, by rw [onesAt_len]; omega⟩, .yes ⟨hS, hM⟩⟩


theorem sWeakFromSet_ok {w : World} {a b c s : Sl} {n : Net} {l : List Int} (h : RNet w a b c n) (hl : R w s l)  :
    Calls Try.prog F.s_WeakFromSet #[.agg #[a.v, b.v, c.v], s.v] w (Ret [.at .sl, .at .bool] fun (r : Sl) (y : Bool) w' => Ext w w' ∧ ∃ m, OutL w.heap.size w' r m ∧ AnsG (WeakAsked n l) (onesAt n.ends.length l) [] m y) := by
  refine C_s_WeakFromSet ?_
  unfold V_s_WeakFromSet
  refine NEW_intro fun p w1 hp hs hE hb1 => LD_box3 hb1 ?_
  replace h := h.ext hE
  replace hl := hl.ext hE
  refine call (sIsMaximalIndependent_ok h hl) ?_
  rintro x y w2 ⟨hx, hE2⟩
  replace h := h.ext hE2
  replace hl := hl.ext hE2
  replace hb1 := hb1.ext hE2
  replace hE := hE.ext hE2
  refine cond_not (fun hf => ⟨hE, [], OutL.nil _ _, .no fun hg => ?_⟩) (fun ht => ?_)
  · rw [hx.2.2 hg.set] at hf; cases hf
  refine cond_not (fun hf => ⟨hE, [], OutL.nil _ _, .no fun hg => ?_⟩) (fun ht2 => ?_)
  · rw [hx.1.2 ⟨hg.set, hg.max⟩] at hf; cases hf
  have hS := hx.2.1 ht
  have hM := (hx.1.1 ht2).2
  have h40 := hS.good.size.2
  refine LD_bs0 hb1 ?_
  rw [h.1.len, hl.len]
  refine RUN_make (α := Int) slt_int (d := 0) rfl (by omega) (by unfold maxLen; omega) fun r w3 hE3 hO3 => ?_
  refine ⟨IN l.length fun i w' => Ext w2 w' ∧ OwnL w' w2.heap.size T.t_int r (onesAt n.ends.length (l.take i)), MN l.length, IN_zero ⟨hE3, by simpa [onesAt] using hO3⟩, ?_⟩
  rintro _ w4 ⟨i, rfl, hi, hE4, hO⟩
  intros
  refine cond_dec (fun hlt => ?_) (fun hge => ?_)
  · have hi' : i < l.length := by omega
    refine (hl.ext hE4).ixI hi' fun q _ hc => LD_int hc ?_
    obtain ⟨u, hu, hul⟩ := hS.node _ (List.getElem_mem hi')
    rw [hu]
    refine IX_own hO (by rw [onesAt_len]; exact hul) rfl fun q hq => ?_
    refine ST_own hO (by rw [onesAt_len]; exact hul) hq (1 : Int) rfl fun w5 hO5 hs5 => ?_
    refine IN_next hl.le hi' ⟨hs5.ext0 hE4 (fun k hk => (hO.blk k hk).1), ?_⟩
    rw [List.take_succ_eq_append_getElem hi', onesAt_snoc, hu]
    exact hO5
  · have : i = l.length := by omega
    subst this
    rw [List.take_length] at hO
    exact ⟨hE.trans hE4, _, ⟨hO.low hE.size_le, onesAt_I64 _ _, by rw [onesAt_len]; omega⟩, .yes ⟨hS, hM⟩⟩

theorem sWeakFromSet_R {w : World} {a b c s : Sl} {n : Net} {l : List Int} (h : RNet w a b c n) (hl : R w s l) :
    Calls Try.prog F.s_WeakFromSet #[.agg #[a.v, b.v, c.v], s.v] w (Ret [.at .sl, .at .bool] fun (r : Sl) (y : Bool) w' => Ext w w' ∧ ∃ m, R w' r m ∧ AnsG (WeakAsked n l) (onesAt n.ends.length l) [] m y) :=
  call (sWeakFromSet_ok h hl) fun _ _ _ ⟨h1, m, h2, h3⟩ => ⟨h1, m, h2.rep, h3⟩

end Go.Proofs.Ytcilbmkieclelaa
