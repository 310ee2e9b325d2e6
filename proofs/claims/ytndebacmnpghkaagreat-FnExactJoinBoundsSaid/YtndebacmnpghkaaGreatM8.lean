/- Own texts, merged: FirstMap, Support, Narrow, Narrow2, Grow, ZeroPure, PullNS, PullR, Times, Times2, Zero, Refuse, Build, Cut, Join. -/
import Derived.Test.YtndebacmnpghkaaGreatM7
set_option linter.unusedVariables false
section
/- The program's search for the first label map. -/
namespace Go.GX
open Go.RowKit
theorem LD_sl2 {w : World} {p : Addr} {i j : Nat} {s : Sl} {K : Sl → Prop} (hc : w.cell? (p.add (i + j)) = some s.v) (hk : K s) : LD [.sl] ((p.add i).add j) w K := by
  rw [add_add]; exact LD_sl hc hk
theorem LD_int22 {w : World} {p : Addr} {i j : Nat} {n : Int} {K : Int → Prop} (hc : w.cell? (p.add (i + j)) = some (.int .i64 n)) (hk : K n) : LD [.int .i64] ((p.add i).add j) w K := by
  rw [add_add]; exact LD_int hc hk
end Go.GX
namespace Go.Proofs.YtndebacmnpghkaaGreat
open Go.GX Go.RowKit
set_option maxRecDepth 100000

/-- The variable of the search. -/
def RenB (w : World) (x0 : Addr) (p q : Prob) (c d c' d' s : Sl) : Prop := Box w x0 T.t_i_renamer [.int .i64 p.labels, .int .i64 p.degree, c.v, d.v, .int .i64 q.labels, .int .i64 q.degree, c'.v, d'.v, s.v]

theorem RenB.ext {w w' : World} {x0 : Addr} {p q : Prob} {c d c' d' s : Sl} (h : RenB w x0 p q c d c' d' s) (hE : Ext w w') : RenB w' x0 p q c d c' d' s := Box.ext h hE

/-- The cells of the variable that are never written. -/
def RenD (x0 : Addr) (a : Addr) : Prop := ¬ ∃ i : Nat, i < 8 ∧ a = x0.add i

theorem ren_kept {w w' : World} {x0 : Addr} {p q : Prob} {c d c' d' s s' : Sl} (h : RenB w x0 p q c d c' d' s) (h' : RenB w' x0 p q c d c' d' s') : Kept w w' (RenD x0) := fun a v hn hc => by
  obtain ⟨i, hi, rfl⟩ := Classical.not_not.1 hn
  have main : ∀ u, w.cell? (x0.add i) = some u → w'.cell? (x0.add i) = some u → w'.cell? (x0.add i) = some v := fun u h1 h2 => by
    rw [hc] at h1
    rw [h2, ← h1]
  match i, hi with
  | 0, _ => exact main _ (h.cell (i := 0) rfl) (h'.cell (i := 0) rfl)
  | 1, _ => exact main _ (h.cell (i := 1) rfl) (h'.cell (i := 1) rfl)
  | 2, _ => exact main _ (h.cell (i := 2) rfl) (h'.cell (i := 2) rfl)
  | 3, _ => exact main _ (h.cell (i := 3) rfl) (h'.cell (i := 3) rfl)
  | 4, _ => exact main _ (h.cell (i := 4) rfl) (h'.cell (i := 4) rfl)
  | 5, _ => exact main _ (h.cell (i := 5) rfl) (h'.cell (i := 5) rfl)
  | 6, _ => exact main _ (h.cell (i := 6) rfl) (h'.cell (i := 6) rfl)
  | 7, _ => exact main _ (h.cell (i := 7) rfl) (h'.cell (i := 7) rfl)

theorem ren_look (x0 : Addr) (i j : Nat) (h : i + j < 8) : ∀ k : Nat, k < 1 → ¬ RenD x0 (((x0.add i).add j).add k) := fun k hk hD => hD ⟨i + j, h, by
  have : k = 0 := by omega
  subst this
  rw [add_zero', add_add]⟩

theorem mapped_ok {w : World} {x0 : Addr} {p q : Prob} {c d c' d' s a b : Sl} {f : List Int} {L M : List (List Int)} {size labels : Int} (hb : RenB w x0 p q c d c' d' s) (hf : R w s f) (h1 : 0 < f.length) (h8 : f.length ≤ 1000)
    (hL : ConfOk L size labels) (hs : 1 ≤ size ∧ size ≤ 4) (ha : R w a L) (hM : R w b M) (hMl : M.length ≤ 1048576) (hMr : ∀ j i (_ : i < j) (hj : j < M.length), cmpL (M[i]'(by omega)) M[j] < 0) :
    Calls Tryz.prog F.ptr_i_renamer_mapped #[.pointer (some x0), a.v, b.v] w (Ret [.at .bool] fun (v : Bool) w' => (v = true ↔ LastOk f L M) ∧ Ext w w') := by
  refine C_ptr_i_renamer_mapped ?_
  unfold V_ptr_i_renamer_mapped
  refine LD_sl (hb.cell (i := 8) rfl) ?_
  have h64 := flat_ok hf
  rw [ha.len, hf.len, wrap_of (by omega) (by omega)]
  refine ⟨IN L.length fun i w' => Ext w w' ∧ ∀ j (hj : j < L.length), j < i → ∀ h : 0 < L[j].length, L[j][L[j].length - 1] = (f.length : Int) - 1 → sortI (img f L[j]) ∈ M, MN L.length, IN_zero ⟨Ext.refl _, fun j _ hj => absurd hj (by omega)⟩, ?_⟩
  rintro _ w1 ⟨i, rfl, hi, hE1, hI⟩
  intros
  refine cond_dec (fun hlt => ?_) (fun hge => ?_)
  · have hi' : i < L.length := by omega
    obtain ⟨r1, r2, r3⟩ := hL.row i hi'
    have hc0 : 0 < L[i].length := by omega
    refine (ha.ext hE1).ixL hi' fun q1 row hrow hc => LD_sl hc ?_
    rw [hrow.len]
    have e1 : IntKind.i64.wrap ((L[i].length : Int) - 1) = ((L[i].length - 1 : Nat) : Int) := by rw [wrap_of (by omega) (by omega)]; omega
    rw [e1]
    refine hrow.ixI (i := L[i].length - 1) (by omega) fun q2 _ hc2 => LD_int hc2 ?_
    refine cond_ne (fun hne => IN_next ha.le hi' ⟨hE1, fun j hj hji h0 he => ?_⟩) (fun heq => ?_)
    · by_cases hjj : j = i
      · subst hjj; exact absurd he hne
      · exact hI j hj (by omega) h0 he
    have hlast : L[i][L[i].length - 1] = (f.length : Int) - 1 := heq
    have hin : ∀ x ∈ L[i], ∃ u : Nat, x = u ∧ u < f.length := fun x hx => by
      have h2 := r3 x hx
      have h3 := last_le r2 hc0 x hx
      exact ⟨x.toNat, by omega, by omega⟩
    have hz1 := hE1.size_le
    refine ⟨IN2 L[i].length fun j (im : Sl) w' => Ext w1 w' ∧ OwnL w' w1.heap.size T.t_int im (img f (L[i].take j)), MN2 L[i].length, IN2_zero ⟨Ext.refl _, by simpa [img] using OwnL.nil _ _ _⟩, ?_⟩
    rintro im _ w2 ⟨j, rfl, hj, hE2, hO⟩
    intros
    refine cond_dec (fun hlt2 => ?_) (fun hge2 => ?_)
    · have hj' : j < L[i].length := by omega
      refine (hrow.any.ext hE2).ixI hj' fun q3 _ hc3 => LD_int hc3 (LD_sl ((hb.ext (hE1.trans hE2)).cell (i := 8) rfl) ?_)
      obtain ⟨u, hu, hul⟩ := hin _ (List.getElem_mem hj')
      rw [hu]
      refine (hf.ext (hE1.trans hE2)).ixI hul fun q4 hI4 hc4 => LD_int hc4 ?_
      refine RUN_lit1 (α := Int) slt_int f[u] rfl (by decide) fun r w5 hE5 hO5 => ?_
      refine RUN_append (α := Int) slt_int (hO.ext hE5) (by have := hE2.size_le; have := hE5.size_le; omega) (hO5.rep (by intro z hz; simp at hz; subst hz; exact hI4)).any (by simp [img_len]; omega) (by simp [img_len, maxLen]; omega) fun r' w6 hO6 hs6 => ?_
      refine IN2_next hrow.le hj' ⟨hs6.ext0 (hE2.trans hE5) (fun k hk => (hO.blk k hk).1), ?_⟩
      unfold img at hO6 ⊢
      rw [map_take_succ hj', hu]
      simpa [hul] using hO6
    · have : j = L[i].length := by omega
      subst this
      rw [List.take_length] at hO
      refine call (hasConfiguration_ok (hM.ext (hE1.trans hE2)) (hO.rep (img_I64 h64)).any hMr hMl (by rw [img_len]; omega)) ?_
      rintro v w7 ⟨rfl, hE7⟩
      refine cond_not (fun hf2 => ⟨⟨(fun h => by cases h), fun hA => ?_⟩, hE1.trans (hE2.trans hE7)⟩) (fun ht => IN_next ha.le hi' ⟨hE1.trans (hE2.trans hE7), fun j hj hji h0 he => ?_⟩)
      · have := hA _ (List.getElem_mem hi') hc0 hlast
        rw [decide_eq_true this] at hf2
        cases hf2
      · by_cases hjj : j = i
        · subst hjj; exact of_decide_eq_true ht
        · exact hI j hj (by omega) h0 he
  · have : i = L.length := by omega
    subst this
    refine ⟨⟨fun _ cc hcc h0 he => ?_, fun _ => rfl⟩, hE1⟩
    obtain ⟨j, hj, rfl⟩ := List.mem_iff_getElem.1 hcc
    exact hI j hj hj h0 he

def FmIs (w0 : World) (base : Nat) (x0 : Addr) (p q : Prob) (c d c' d' : Sl) (n : Nat) (f : List Int) (b : Bool) (w' : World) : Prop :=
  Ext w0 w' ∧ base ≤ w'.heap.size ∧ ∃ s' f', RenB w' x0 p q c d c' d' s' ∧ OwnL w' base T.t_int s' f' ∧ match bestM p q n f with | some h => b = true ∧ f' = h | none => b = false ∧ f' = f

set_option maxHeartbeats 1600000 in
theorem firstLabelMap_ok {w0 : World} {base : Nat} {x0 : Addr} {p q : Prob} {c d c' d' : Sl} (hp : PGood p) (hq : PGood q) (hsq : SmallP q) (hP : RProb w0 c d p) (hQ : RProb w0 c' d' q) (hb0 : w0.heap.size ≤ base) (hx0 : w0.heap.size ≤ x0.block) :
    ∀ (n : Nat) {w : World} {s : Sl} {f : List Int}, (f.length : Int) + n = p.labels → PreOk p q f → Ext w0 w → base ≤ w.heap.size → RenB w x0 p q c d c' d' s → OwnL w base T.t_int s f →
      Calls Tryz.prog F.i_firstLabelMap #[.pointer (some x0)] w (Ret [.at .bool] fun (b : Bool) w' => FmIs w0 base x0 p q c d c' d' n f b w') := by
  intro n
  induction n with
  | zero =>
    intro w s f hn hpre hE hbase hB hO
    refine C_i_firstLabelMap ?_
    unfold V_i_firstLabelMap
    intro w1 hE1 _
    replace hE := hE.ext hE1
    replace hB := hB.ext hE1
    replace hO := hO.ext hE1
    have hmap : MapOk p q f := hpre.map hp (by omega)
    have hbest : bestM p q 0 f = some f := by rw [bestM, if_pos hmap]
    have hl : (s.len : Int) = p.labels := by rw [hO.1]; omega
    have fin : FmIs w0 base x0 p q c d c' d' 0 f true w1 := ⟨hE, by have := hE1.size_le; omega, s, f, hB, hO, by rw [hbest]; exact ⟨rfl, rfl⟩⟩
    refine ⟨⟨Ext.refl _, LD_sl (hB.cell (i := 8) rfl) ⟨Ext.refl _, Ext.refl _, Ext.refl _, LD_int22 (hB.cell (i := 0) rfl) ⟨Ext.refl _, Ext.refl _, ?_⟩⟩⟩, ⟨Ext.refl _, LD_int22 (hB.cell (i := 0) rfl) ⟨Ext.refl _, Ext.refl _, LD_sl (hB.cell (i := 8) rfl) ⟨Ext.refl _, Ext.refl _, Ext.refl _, ?_⟩⟩⟩⟩
    · exact cond_eq (fun _ => fin) (fun hne => absurd hl hne)
    · exact cond_eq (fun _ => fin) (fun hne => absurd hl hne)
  | succ n ih =>
    intro w s f hn hpre hE hbase hB hO
    refine C_i_firstLabelMap ?_
    unfold V_i_firstLabelMap
    intro w1 hE1 _
    replace hE := hE.ext hE1
    replace hB := hB.ext hE1
    replace hO := hO.ext hE1
    have hz1 := hE1.size_le
    have hlab := hp.lab
    have hlabq := hq.lab
    have hdp := hp.deg
    have hdq := hq.deg
    have hl : (s.len : Int) ≠ p.labels := by rw [hO.1]; omega
    have body : V_i_firstLabelMap_k1 x0 (fun b w' => FmIs w0 base x0 p q c d c' d' (n + 1) f b w') w1 := by
      unfold V_i_firstLabelMap_k1
      refine LD_int22 (hB.cell (i := 4) rfl) ?_
      refine ⟨IN q.labels.toNat fun b w' => Ext w0 w' ∧ base ≤ w'.heap.size ∧ (∀ b', b' < b → bestM p q n (f ++ [(b' : Int)]) = none) ∧ ∃ s', RenB w' x0 p q c d c' d' s' ∧ OwnL w' base T.t_int s' f, MN q.labels.toNat, IN_zero ⟨hE, by omega, fun b' hb' => absurd hb' (by omega), s, hB, hO⟩, ?_⟩
      rintro _ w3 ⟨b, rfl, hb, hE3, hz3, hnone, s3, hB3, hO3⟩
      intros
      refine cond_dec (fun hlt => LD_sl (hB3.cell (i := 8) rfl) ?_) (fun hge => ?_)
      · have hb' : b < q.labels.toNat := by omega
        refine RUN_lit1 (α := Int) slt_int (b : Int) rfl (by decide) fun y w4 hE4 hO4 => ?_
        have hO34 := hO3.ext hE4
        have hz4 := hE4.size_le
        refine RUN_append (α := Int) slt_int hO34 (by omega) (hO4.rep (by intro z hz; simp at hz; subst hz; show I64 _; unfold I64; omega)).any (by simp; omega) (by simp [maxLen]; omega) fun s5 w5 hO5 hs5 => ?_
        have hz5 := hs5.size
        have hB5 : RenB w5 x0 p q c d c' d' s3 := Box.stepT (hB3.ext hE4) hO34 (by decide) hs5
        refine ST_box1 hB5 (by simp) rfl fun w6 hz6 hk6 hX6 hb6 => ?_
        have hE5 : Ext w0 w5 := hs5.ext0 (hE3.trans hE4) fun k hk => by have := (hO34.blk k hk).1; omega
        have hE6 := hX6 _ hE5 hx0
        have hO6 : OwnL w6 base T.t_int s5 (f ++ [(b : Int)]) := hO5.keep fun k hk => hk6 k fun he => (hB5.notOwn hO5 (by decide)) (by rw [← he]; exact hk)
        have hB6 : RenB w6 x0 p q c d c' d' s5 := hb6
        intro w7 hE67 _
        replace hE6 := hE6.ext hE67
        replace hO6 := hO6.ext hE67
        replace hB6 := hB6.ext hE67
        have hz67 := hE67.size_le
        have hfl : (f ++ [(b : Int)]).length = f.length + 1 := by simp
        have hf64 : ∀ z ∈ f ++ [(b : Int)], I64 z := fun z hz => by
          rcases List.mem_append.1 hz with h2 | h2
          · have := hpre.labs z h2; unfold I64; omega
          · rw [List.mem_singleton.1 h2]; unfold I64; omega
        -- what is done where the first label's image fails
        have k6 : ∀ (w8 : World), Ext w0 w8 → base ≤ w8.heap.size → bestM p q n (f ++ [(b : Int)]) = none → (∃ s8, RenB w8 x0 p q c d c' d' s8 ∧ OwnL w8 base T.t_int s8 (f ++ [(b : Int)])) →
            V_i_firstLabelMap_k6 (IN q.labels.toNat fun b w' => Ext w0 w' ∧ base ≤ w'.heap.size ∧ (∀ b', b' < b → bestM p q n (f ++ [(b' : Int)]) = none) ∧ ∃ s', RenB w' x0 p q c d c' d' s' ∧ OwnL w' base T.t_int s' f) (MN q.labels.toNat) (b : Int) w3 x0 w8 := by
          rintro w8 hE8 hz8 hno ⟨s8, hB8, hO8⟩
          unfold V_i_firstLabelMap_k6
          intro w19 hE19 _
          replace hE8 := hE8.ext hE19
          replace hB8 := hB8.ext hE19
          replace hO8 := hO8.ext hE19
          have hz19 := hE19.size_le
          have hl8 := hO8.1
          have hmx : s8.len ≤ s8.cap := (hO8.rep hf64).2.1.1
          have ek : IntKind.i64.wrap ((s8.len : Int) - 1) = ((f.length : Nat) : Int) := by rw [wrap_of (by omega) (by omega)]; omega
          have go : LD [.sl] (x0.add 8) w19 fun (x67 : Sl) => LD [.sl] (x0.add 8) w19 fun (x71 : Sl) => SLC x67 none (some (IntKind.i64.wrap (x71.len - 1))) 1 fun (x74 : Sl) => GX.ST (x0.add 8) 0 [x74.v] w19 fun w20 => V_i_firstLabelMap_k5 (IN q.labels.toNat fun b w' => Ext w0 w' ∧ base ≤ w'.heap.size ∧ (∀ b', b' < b → bestM p q n (f ++ [(b' : Int)]) = none) ∧ ∃ s', RenB w' x0 p q c d c' d' s' ∧ OwnL w' base T.t_int s' f) (MN q.labels.toNat) (b : Int) w3 w20 := by
            refine LD_sl (hB8.cell (i := 8) rfl) (LD_sl (hB8.cell (i := 8) rfl) ?_)
            rw [ek]
            refine SLC_to (by omega) fun dd h1 h2 h3 => ?_
            refine ST_box1 hB8 (by simp) rfl fun w20 hz20 hk20 hX20 hb20 => ?_
            have hfr := hO8.front (k := f.length) (by omega)
            rw [List.take_left] at hfr
            have hd : dd = ⟨s8.a, f.length, s8.cap⟩ := by cases dd; simp at h1 h2 h3; simp [h1, h2, h3]
            subst hd
            unfold V_i_firstLabelMap_k5
            refine IN_next (by omega) hb' ⟨hX20 _ hE8 hx0, by omega, fun b' hb2 => ?_, _, hb20, hfr.keep fun k hk => hk20 k fun he => (hB8.notOwn hfr (by decide)) (by rw [← he]; exact hk)⟩
            by_cases hbb : b' = b
            · subst hbb; exact hno
            · exact hnone b' (by omega)
          have go2 : LD [.sl] (x0.add 8) w19 fun (x71 : Sl) => LD [.sl] (x0.add 8) w19 fun (x67 : Sl) => SLC x67 none (some (IntKind.i64.wrap (x71.len - 1))) 1 fun (x74 : Sl) => GX.ST (x0.add 8) 0 [x74.v] w19 fun w20 => V_i_firstLabelMap_k5 (IN q.labels.toNat fun b w' => Ext w0 w' ∧ base ≤ w'.heap.size ∧ (∀ b', b' < b → bestM p q n (f ++ [(b' : Int)]) = none) ∧ ∃ s', RenB w' x0 p q c d c' d' s' ∧ OwnL w' base T.t_int s' f) (MN q.labels.toNat) (b : Int) w3 w20 := by
            refine LD_sl (hB8.cell (i := 8) rfl) (LD_sl (hB8.cell (i := 8) rfl) ?_)
            rw [ek]
            refine SLC_to (by omega) fun dd h1 h2 h3 => ?_
            refine ST_box1 hB8 (by simp) rfl fun w20 hz20 hk20 hX20 hb20 => ?_
            have hfr := hO8.front (k := f.length) (by omega)
            rw [List.take_left] at hfr
            have hd : dd = ⟨s8.a, f.length, s8.cap⟩ := by cases dd; simp at h1 h2 h3; simp [h1, h2, h3]
            subst hd
            unfold V_i_firstLabelMap_k5
            refine IN_next (by omega) hb' ⟨hX20 _ hE8 hx0, by omega, fun b' hb2 => ?_, _, hb20, hfr.keep fun k hk => hk20 k fun he => (hB8.notOwn hfr (by decide)) (by rw [← he]; exact hk)⟩
            by_cases hbb : b' = b
            · subst hbb; exact hno
            · exact hnone b' (by omega)
          exact ⟨⟨go, go, go2⟩, ⟨go, go2⟩, go2⟩
        -- the two tests
        have hkk : ∀ {w8 : World} {s8 : Sl}, RenB w8 x0 p q c d c' d' s8 → Kept w7 w8 (RenD x0) := fun h => ren_kept hB6 h
        have hk7 : Kept w7 w7 (RenD x0) := hkk hB6
        refine ⟨RenD x0, ⟨hk7, ren_look x0 0 2 (by decide), LD_sl2 (hB6.cell (i := 2) rfl) ⟨hk7, hk7, hk7, LD_sl2 (hB6.cell (i := 6) rfl) ⟨hk7, ?_⟩⟩⟩, ⟨hk7, ren_look x0 4 2 (by decide), LD_sl2 (hB6.cell (i := 6) rfl) ⟨hk7, hk7, hk7, LD_sl2 (hB6.cell (i := 2) rfl) ⟨hk7, ?_⟩⟩⟩⟩
        all_goals
          refine call (mapped_ok hB6 (hO6.rep hf64).any (by omega) (by omega) hp.nodes (by omega) (hP.ext hE6).nodes (hQ.ext hE6).nodes hsq.1.1 hq.nodes.lt) ?_
          rintro v1 w8 ⟨hv1, hE78⟩
          have hE8 := hE6.trans hE78
          have hB8 := hB6.ext hE78
          have hO8 := hO6.ext hE78
          have hk8 := hkk hB8
          have hz8 := hE78.size_le
          refine ⟨hk8, hk8, cond_b (fun ht1 => ?_) (fun hf1 => ?_)⟩
          rotate_left
          · have hno : bestM p q n (f ++ [(b : Int)]) = none := bestM_none fun g hg => by
              rw [hv1.2 (map_last hp hg).1] at hf1; cases hf1
            have h6 := k6 w8 hE8 (by omega) hno ⟨s5, hB8, hO8⟩
            exact ⟨⟨hk8, hk8, hk8, h6⟩, ⟨hk8, hk8, hk8, h6⟩⟩
          · refine ⟨⟨hk8, ren_look x0 0 3 (by decide), LD_sl2 (hB6.cell (i := 3) rfl) ⟨hk8, hk8, hk8, LD_sl2 (hB8.cell (i := 7) rfl) ⟨hk8, ?_⟩⟩⟩, ⟨hk8, ren_look x0 4 3 (by decide), LD_sl2 (hB6.cell (i := 7) rfl) ⟨hk8, hk8, hk8, LD_sl2 (hB8.cell (i := 3) rfl) ⟨hk8, ?_⟩⟩⟩⟩
            all_goals
              refine call (mapped_ok hB8 (hO8.rep hf64).any (by omega) (by omega) hp.edges (by omega) (hP.ext hE8).edges (hQ.ext hE8).edges hsq.2.1 hq.edges.lt) ?_
              rintro v2 w9 ⟨hv2, hE89⟩
              have hE9 := hE8.trans hE89
              have hB9 := hB8.ext hE89
              have hO9 := hO8.ext hE89
              have hk9 := hkk hB9
              have hz9 := hE89.size_le
              refine ⟨hk9, hk9, hk9, cond_b (fun ht2 => ⟨hk9, ?_⟩) (fun hf2 => ⟨hk9, ?_⟩)⟩
              · have hpre2 : PreOk p q (f ++ [(b : Int)]) := hpre.snoc hp (by omega) (by omega) (hv1.1 ht1) (hv2.1 ht2)
                refine call (ih (by rw [hfl]; omega) hpre2 hE9 (by omega) hB9 hO9) ?_
                rintro v3 w10 ⟨hE10, hz10, s10, f10, hB10, hO10, hm⟩
                have hk10 := hkk hB10
                refine ⟨hk10, hk10, ?_⟩
                cases hbm : bestM p q n (f ++ [(b : Int)]) with
                | some h =>
                  rw [hbm] at hm
                  obtain ⟨rfl, rfl⟩ := hm
                  exact cond_t rfl ⟨hE10, hz10, s10, f10, hB10, hO10, by rw [bestM_hit hb' hnone hbm]; exact ⟨rfl, rfl⟩⟩
                | none =>
                  rw [hbm] at hm
                  obtain ⟨rfl, rfl⟩ := hm
                  exact cond_f rfl (k6 w10 hE10 hz10 hbm ⟨s10, hB10, hO10⟩)
              · have hno : bestM p q n (f ++ [(b : Int)]) = none := bestM_none fun g hg => by
                  rw [hv2.2 (map_last hp hg).2] at hf2; cases hf2
                exact k6 w9 hE9 (by omega) hno ⟨s5, hB9, hO9⟩
      · have : b = q.labels.toNat := by omega
        subst this
        exact ⟨hE3, hz3, s3, f, hB3, hO3, by rw [bestM_no hnone]; exact ⟨rfl, rfl⟩⟩
    refine ⟨⟨Ext.refl _, LD_sl (hB.cell (i := 8) rfl) ⟨Ext.refl _, Ext.refl _, Ext.refl _, LD_int22 (hB.cell (i := 0) rfl) ⟨Ext.refl _, Ext.refl _, ?_⟩⟩⟩, ⟨Ext.refl _, LD_int22 (hB.cell (i := 0) rfl) ⟨Ext.refl _, Ext.refl _, LD_sl (hB.cell (i := 8) rfl) ⟨Ext.refl _, Ext.refl _, Ext.refl _, ?_⟩⟩⟩⟩
    · exact cond_eq (fun he => absurd he hl) (fun _ => body)
    · exact cond_eq (fun he => absurd he hl) (fun _ => body)

end Go.Proofs.YtndebacmnpghkaaGreat
end

section
/- What supports the images of labels: the reference's marks. -/
namespace Go.Proofs.YtndebacmnpghkaaGreat
open Go.GX Go.RowKit
set_option maxRecDepth 100000

/-! ### In plain words -/

theorem backs_step {k : Nat} {good : List Int → Bool} {S c : List Int} {a : Int} {b : Nat} {ch : List Int} (hl : ch.length < c.length) : Backs k good S c a b ch ↔ ∃ x : Nat, x < k ∧ Backs k good S c a b (ch ++ [(x : Int)]) := by
  constructor
  · rintro ⟨e, hC, hel, ⟨r, rfl⟩, hg, hi⟩
    cases r with
    | nil => rw [List.append_nil] at hel; omega
    | cons y r =>
      have h1 : ch.length < (ch ++ y :: r).length := by simp
      obtain ⟨x, hx, hxk, _⟩ := hC.in_ ch.length h1 hl
      have hy : y = (x : Int) := by rw [← hx]; simp
      subst hy
      exact ⟨x, hxk, _, hC, hel, ⟨r, by simp⟩, hg, hi⟩
  · rintro ⟨x, _, e, hC, hel, ⟨r, rfl⟩, hg, hi⟩
    exact ⟨_, hC, hel, ⟨(x : Int) :: r, by simp⟩, hg, hi⟩

/-- What is asked of one more choice. -/
def MayBe (S c ch : List Int) (x : Nat) : Prop := ∃ h : ch.length < c.length, (setAt S c[ch.length]).testBit x = true ∧ ∀ j (hj : j + 1 = ch.length), c[j]'(by omega) = c[j + 1]'(by omega) → ch[j]'(by omega) = (x : Int)

theorem maybe_ext {k : Nat} {S c ch : List Int} {x : Nat} (h : ChoiceOf k S c ch) (hx : x < k) (hm : MayBe S c ch x) : ChoiceOf k S c (ch ++ [(x : Int)]) := by
  obtain ⟨hl, hb, hs⟩ := hm
  refine ⟨by simp; omega, fun i h1 h2 => ?_, fun i h1 h2 he => ?_⟩
  · by_cases hi : i < ch.length
    · rw [List.getElem_append_left hi]; exact h.in_ i hi h2
    · have : i = ch.length := by simp at h1; omega
      subst this
      exact ⟨x, by simp, hx, hb⟩
  · by_cases hi : i + 1 < ch.length
    · rw [List.getElem_append_left (by omega), List.getElem_append_left hi]; exact h.same i hi h2 he
    · have hij : i + 1 = ch.length := by simp at h1; omega
      rw [List.getElem_append_left (by omega), hs i hij he, List.getElem_append_right (by omega)]
      simp

theorem maybe_of {k : Nat} {good : List Int → Bool} {S c : List Int} {a : Int} {b : Nat} {ch : List Int} {x : Nat} (hl : ch.length < c.length) (h : Backs k good S c a b (ch ++ [(x : Int)])) : MayBe S c ch x := by
  obtain ⟨e, hC, hel, ⟨r, rfl⟩, _, _⟩ := h
  have h1 : ch.length < (ch ++ [(x : Int)] ++ r).length := by simp
  have hx : (ch ++ [(x : Int)] ++ r)[ch.length] = (x : Int) := by
    rw [List.getElem_append_left (by simp)]
    simp
  obtain ⟨y, hy, _, hbit⟩ := hC.in_ ch.length h1 hl
  rw [hx] at hy
  refine ⟨hl, by rwa [show x = y by omega], fun j hj he => ?_⟩
  have h2 := hC.same j (by simp; omega) (by omega) he
  have e1 : (ch ++ [(x : Int)] ++ r)[j]'(by simp; omega) = ch[j]'(by omega) := by
    rw [List.getElem_append_left (by simp; omega), List.getElem_append_left (by omega)]
  rw [e1] at h2
  rw [h2]
  have : ∀ (m : Nat) (hm : m < (ch ++ [(x : Int)] ++ r).length), m = ch.length → (ch ++ [(x : Int)] ++ r)[m] = (x : Int) := fun m hm he => by subst he; exact hx
  exact this (j + 1) (by simp; omega) hj

theorem backs_full {k : Nat} {good : List Int → Bool} {S c : List Int} {a : Int} {b : Nat} {ch : List Int} (hl : ch.length = c.length) (hC : ChoiceOf k S c ch) : Backs k good S c a b ch ↔ good ch = true ∧ ∃ i, ∃ (h : i < ch.length) (h' : i < c.length), c[i] = a ∧ ch[i] = b := by
  constructor
  · rintro ⟨e, _, hel, hp, hg, hi⟩
    have : ch = e := hp.eq_of_length (by omega)
    subst this
    exact ⟨hg, hi⟩
  · rintro ⟨hg, hi⟩
    exact ⟨ch, hC, hl, List.prefix_rfl, hg, hi⟩

/-! ### The program of the reference -/

/-- Numbers that are sets. -/
def Bytes (n : Nat) (S : List Int) : Prop := ∀ x ∈ S, ∃ m : Nat, x = m ∧ m < 2 ^ n

theorem bytes_at {n : Nat} {S : List Int} (h : Bytes n S) {a : Nat} (ha : a < S.length) : S[a] = ((setAt S (a : Int) : Nat) : Int) ∧ setAt S (a : Int) < 2 ^ n := by
  obtain ⟨m, hm, hlt⟩ := h _ (List.getElem_mem ha)
  unfold setAt
  rw [Int.toNat_natCast, get_at ha, hm, Int.toNat_natCast]
  exact ⟨rfl, hlt⟩
theorem bytes_I64 {n : Nat} (hn : n ≤ 8) {S : List Int} (h : Bytes n S) : ∀ x ∈ S, I64 x := fun x hx => by
  obtain ⟨m, rfl, hm⟩ := h x hx
  have : 2 ^ n ≤ 2 ^ 8 := Nat.pow_le_pow_right (by decide) hn
  have e : (2 : Nat) ^ 8 = 256 := by decide
  show I64 _
  unfold I64; omega
theorem bytes_set {n : Nat} {S : List Int} (h : Bytes n S) {a m : Nat} (hm : m < 2 ^ n) : Bytes n (S.set a (m : Int)) := fun x hx => by
  rcases List.mem_or_eq_of_mem_set hx with h1 | h1
  · exact h x h1
  · exact ⟨m, h1, hm⟩
theorem setAt_set {S : List Int} {a c m : Nat} (ha : a < S.length) : setAt (S.set a (m : Int)) (c : Int) = if c = a then m else setAt S (c : Int) := by
  unfold setAt
  rw [Int.toNat_natCast, List.getD_eq_getElem?_getD, List.getElem?_set]
  by_cases h : a = c
  · subst h
    rw [if_pos rfl, if_pos rfl, if_pos ha]; rfl
  · rw [if_neg h, if_neg (fun e => h e.symm), List.getD_eq_getElem?_getD]

theorem LD_10 {w : World} {p : Addr} {t : TypeId} {x0 x1 x4 x5 : Int} {x2 x3 x6 x7 x8 x9 : Sl} {K : Int → Int → Sl → Sl → Int → Int → Sl → Sl → Sl → Sl → Prop} (hb : Box w p t [.int .i64 x0, .int .i64 x1, x2.v, x3.v, .int .i64 x4, .int .i64 x5, x6.v, x7.v, x8.v, x9.v]) (hk : K x0 x1 x2 x3 x4 x5 x6 x7 x8 x9) :
    LD [.int .i64, .int .i64, .sl, .sl, .int .i64, .int .i64, .sl, .sl, .sl, .sl] p w K :=
  ⟨_, rfl, fun i v hv => hb.cell hv, hk⟩

def FinB (w : World) (px : Addr) (p q : Prob) (c d c' d' g1 g2 : Sl) : Prop := Box w px T.t_s_reFinder [.int .i64 p.labels, .int .i64 p.degree, c.v, d.v, .int .i64 q.labels, .int .i64 q.degree, c'.v, d'.v, g1.v, g2.v]
theorem FinB.ext {w w' : World} {px : Addr} {p q : Prob} {c d c' d' g1 g2 : Sl} (h : FinB w px p q c d c' d' g1 g2) (hE : Ext w w') : FinB w' px p q c d c' d' g1 g2 := Box.ext h hE
theorem one10 (x0 x1 x4 x5 : Int) (x2 x3 x6 x7 x8 x9 : Sl) : ∀ v ∈ [Value.int .i64 x0, .int .i64 x1, x2.v, x3.v, .int .i64 x4, .int .i64 x5, x6.v, x7.v, x8.v, x9.v], v.oneCell' = true := by
  intro v hv; simp at hv; rcases hv with rfl | rfl | rfl | rfl | rfl | rfl | rfl | rfl | rfl | rfl <;> rfl

/-- What the marks are behind a call. -/
def SuIs (w0 : World) (base n N : Nat) (good : List Int → Bool) (S cfg ch : List Int) (marks : Sl) (MS : List Int) (w : World) (w' : World) : Prop :=
  Ext w0 w' ∧ Chg w w' (oB marks) ∧ ∃ MS', OwnL w' base T.t_int marks MS' ∧ MS'.length = N ∧ Bytes n MS' ∧ ∀ a b : Nat, a < N → ((setAt MS' (a : Int)).testBit b = true ↔ (setAt MS (a : Int)).testBit b = true ∨ Backs n good S cfg (a : Int) b ch)

set_option maxHeartbeats 1600000 in
theorem support_ok {w0 : World} {base n k N : Nat} {g config sets marks : Sl} {L : List (List Int)} {cfg S : List Int} {p q : Prob} {c d c' d' g1 g2 : Sl} (hq : q.labels = (n : Int)) (hn : 1 ≤ n ∧ n ≤ 8) (hk : 1 ≤ k ∧ k ≤ 4) (hg : TabR w0 g n k L) (hc : R w0 config cfg) (hck : cfg.length = k) (hS : R w0 sets S) (hSN : S.length = N) (hSb : Bytes n S) (hcN : ∀ x ∈ cfg, ∃ a : Nat, x = a ∧ a < N) (hN : N ≤ 8) (hb0 : w0.heap.size ≤ base) :
    ∀ (m : Nat) {w : World} {x4 : Sl} {ch MS : List Int}, ch.length + m = k → Ext w0 w → base ≤ w.heap.size → SlR (fun b => ¬ oB marks b) w x4 ch → OwnL w base T.t_int marks MS → MS.length = N → Bytes n MS → ChoiceOf n S cfg ch →
      Calls Tryz.prog F.s_reFinder_support #[.agg #[.int .i64 p.labels, .int .i64 p.degree, c.v, d.v, .int .i64 q.labels, .int .i64 q.degree, c'.v, d'.v, g1.v, g2.v], g.v, config.v, sets.v, x4.v, marks.v] w (Ret [] fun w' => SuIs w0 base n N (fun e => decide (sortI e ∈ L)) S cfg ch marks MS w w') := by
  intro m
  have hmb : 2 ^ n ≤ 256 := by
    have : 2 ^ n ≤ 2 ^ 8 := Nat.pow_le_pow_right (by decide) hn.2
    have e : (2 : Nat) ^ 8 = 256 := by decide
    omega
  induction m with
  | zero =>
    intro w x4 ch MS hm hE hbase hch hO hMl hMb hC
    refine C_s_reFinder_support ?_
    unfold V_s_reFinder_support
    refine NEW_intro fun px w1 hpx hsx hE1 hbx => ?_
    have hE01 := hE.trans hE1
    have hch1 := hch.ext hE1
    have hO1 := hO.ext hE1
    have hchl : ch.length = k := by omega
    have hlen : x4.len = k := by rw [hch.len]; exact hchl
    rw [hc.len, hlen, hck]
    refine cond_dec (fun hlt => by omega) (fun _ => ?_)
    have hch64 := flat_ok hch.any
    have hd : Dig n ch := fun x hx => by
      obtain ⟨i, hi, rfl⟩ := List.mem_iff_getElem.1 hx
      obtain ⟨b, hb, hbn, _⟩ := hC.in_ i hi (by omega)
      rw [hb]; omega
    have hvl : ∀ j, j ≤ k → valL n (ch.take j).reverse ≤ 4096 := fun j hj => by
      have h1 := valL_lt (n := n) (c := (ch.take j).reverse) (Dig.rev fun x hx => hd x (List.mem_of_mem_take hx))
      have h2 := pow_tab hn.2 (show (ch.take j).reverse.length ≤ 4 by rw [List.length_reverse, List.length_take]; omega)
      omega
    refine ⟨fun (x14 : Int) (x79 : Int) w' => w1 = w' ∧ ∃ j : Nat, x79 = j ∧ j ≤ k ∧ x14 = ((valL n (ch.take j).reverse : Nat) : Int), fun _ x _ => k - x.toNat, ⟨rfl, 0, rfl, Nat.zero_le _, by simp [valL]⟩, ?_⟩
    rintro _ _ w18 ⟨rfl, j, rfl, hj, rfl⟩
    intros
    refine cond_dec (fun hlt => ?_) (fun hge => ?_)
    · have hj' : j < ch.length := by omega
      refine hch1.ixI hj' fun a1 hI hc1 => LD_int hc1 ?_
      refine LD_int22 (hbx.cell (i := 4) rfl) ?_
      have hjd := hd _ (List.getElem_mem hj')
      have hv1 := hvl j hj
      have hv2 := hvl (j + 1) (by omega)
      have ev : valL n (ch.take (j + 1)).reverse = ch[j].toNat + n * valL n (ch.take j).reverse := by
        rw [List.take_succ_eq_append_getElem hj', List.reverse_append]
        rfl
      have e1 : IntKind.i64.wrap (((valL n (ch.take j).reverse : Nat) : Int) * q.labels) = ((n * valL n (ch.take j).reverse : Nat) : Int) := by
        have e2 : ((valL n (ch.take j).reverse : Nat) : Int) * q.labels = ((n * valL n (ch.take j).reverse : Nat) : Int) := by rw [hq, Nat.mul_comm]; push_cast; rfl
        rw [e2]
        exact wrap_of (by omega) (by omega)
      rw [e1]
      have e3 : IntKind.i64.wrap (((n * valL n (ch.take j).reverse : Nat) : Int) + ch[j]) = ((valL n (ch.take (j + 1)).reverse : Nat) : Int) := by
        rw [wrap_of (by omega) (by omega), ev]
        omega
      rw [e3, wrap_of (by omega) (by omega)]
      exact ⟨⟨rfl, j + 1, by omega, by omega, rfl⟩, by simp only []; omega⟩
    · have : k = j := by omega
      subst this
      rw [List.take_of_length_le (by omega)]
      obtain ⟨G, hG1, hG2, hG3⟩ := hg
      have hvlt := valL_lt (n := n) (c := ch.reverse) hd.rev
      rw [List.length_reverse, hchl] at hvlt
      refine (hG1.ext hE01).ixB (i := valL n ch.reverse) (by omega) fun a2 hc2 => LD_bool hc2 ?_
      have eG : G[valL n ch.reverse]'(by omega) = decide (sortI ch ∈ L) := by
        have h1 := hG3 (valL n ch.reverse) (by omega)
        rw [← tab_at (by omega) hd, hchl, ← h1, List.getD_eq_getElem?_getD, List.getElem?_eq_getElem (by omega)]
        rfl
      rw [eG]
      refine cond_b (fun ht => ?_) (fun hf => ?_)
      · refine ⟨IN k fun i w' => Ext w0 w' ∧ Chg w1 w' (oB marks) ∧ ∃ MS', OwnL w' base T.t_int marks MS' ∧ MS'.length = N ∧ Bytes n MS' ∧ ∀ a b : Nat, a < N → ((setAt MS' (a : Int)).testBit b = true ↔ (setAt MS (a : Int)).testBit b = true ∨ ∃ j, ∃ (_ : j < i) (h : j < ch.length) (h' : j < cfg.length), cfg[j] = (a : Int) ∧ ch[j] = (b : Int)), MN k, IN_zero ⟨hE01, Chg.refl _ _, MS, hO1, hMl, hMb, fun a b _ => ⟨fun h => .inl h, fun h => h.elim (fun h => h) fun ⟨j, h1, _⟩ => absurd h1 (by omega)⟩⟩, ?_⟩
        rintro _ w19 ⟨i, rfl, hi, hE19, hC19, MS', hO19, hMl', hMb', hbits⟩
        intros
        refine cond_dec (fun hlt => ?_) (fun hge2 => ?_)
        · have hi' : i < ch.length := by omega
          have hic : i < cfg.length := by omega
          have hch19 : SlR (fun b => ¬ oB marks b) w19 x4 ch := hch1.chg hC19 fun b hb _ => hb
          refine hch19.ixI hi' fun a3 _ hc3 => LD_int hc3 ?_
          intro w20 hE20 _
          refine ⟨fun _ => False, ?_⟩
          have hO20 := hO19.ext hE20
          refine (hc.ext (hE19.trans hE20)).ixI hic fun a4 _ hc4 => ⟨fun h => h, LD_int hc4 ?_⟩
          obtain ⟨a, ha, haN⟩ := hcN _ (List.getElem_mem hic)
          rw [ha]
          obtain ⟨b, hb, hbn, hbS⟩ := hC.in_ i hi' hic
          have hml : a < MS'.length := by omega
          obtain ⟨em, hem⟩ := bytes_at hMb' hml
          refine ((hO20.rep (bytes_I64 hn.2 hMb')).any).ixI hml fun a5 _ hc5 => ⟨fun h => h, LD_int hc5 ⟨Chg.refl _ _, by rw [hb]; omega, Chg.refl _ _, Chg.refl _ _, ?_⟩⟩
          refine IX_own hO20 hml rfl fun a6 ha6 => ?_
          rw [hb, em, shl_one (by omega), or_nat (by omega) (by have : 2 ^ b ≤ 2 ^ 8 := Nat.pow_le_pow_right (by decide) (by omega); have e : (2 : Nat) ^ 8 = 256 := (by decide); omega)]
          have hor : setAt MS' (a : Int) ||| 2 ^ b < 2 ^ n := Nat.or_lt_two_pow hem (Nat.pow_lt_pow_right (by decide) hbn)
          refine ST_own hO20 hml ha6 ((setAt MS' (a : Int) ||| 2 ^ b : Nat) : Int) rfl fun w21 hO21 hs21 => ?_
          refine IN_next (by omega) (by omega) ⟨hs21.ext0 (hE19.trans hE20) fun b hb => by have := (hO20.blk b hb).1; omega, (hC19.trans (Chg.of_ext hE20)).trans (.of_step hs21 fun b hb => hb), _, hO21, by simp [hMl'], bytes_set hMb' hor, fun a' b' ha' => ?_⟩
          rw [setAt_set hml]
          by_cases haa : a' = a
          · subst haa
            rw [if_pos rfl, Nat.testBit_or, Bool.or_eq_true, hbits a' b' ha', Nat.testBit_two_pow, decide_eq_true_iff]
            constructor
            · rintro ((h | ⟨j, h1, h2, h3, h4⟩) | h)
              · exact .inl h
              · exact .inr ⟨j, by omega, h2, h3, h4⟩
              · exact .inr ⟨i, by omega, hi', hic, ha, by rw [hb, h]⟩
            · rintro (h | ⟨j, h1, h2, h3, h4, h5⟩)
              · exact .inl (.inl h)
              · by_cases hji : j = i
                · subst hji; right; rw [hb] at h5; omega
                · exact .inl (.inr ⟨j, by omega, h2, h3, h4, h5⟩)
          · rw [if_neg haa, hbits a' b' ha']
            constructor
            · rintro (h | ⟨j, h1, h2, h3, h4⟩)
              · exact .inl h
              · exact .inr ⟨j, by omega, h2, h3, h4⟩
            · rintro (h | ⟨j, h1, h2, h3, h4, h5⟩)
              · exact .inl h
              · by_cases hji : j = i
                · subst hji; rw [ha] at h4; omega
                · exact .inr ⟨j, by omega, h2, h3, h4, h5⟩
        · have : k = i := by omega
          subst this
          refine ⟨hE19, (Chg.of_ext hE1).trans hC19, MS', hO19, hMl', hMb', fun a b ha => ?_⟩
          rw [hbits a b ha, backs_full (by omega) hC]
          constructor
          · rintro (h | ⟨j, h1, h2, h3, h4⟩)
            · exact .inl h
            · exact .inr ⟨ht, j, h2, h3, h4⟩
          · rintro (h | ⟨_, j, h2, h3, h4⟩)
            · exact .inl h
            · exact .inr ⟨j, by omega, h2, h3, h4⟩
      · refine ⟨hE01, .of_ext hE1, MS, hO1, hMl, hMb, fun a b ha => ?_⟩
        rw [backs_full (by omega) hC]
        constructor
        · exact fun h => .inl h
        · rintro (h | ⟨h, _⟩)
          · exact h
          · have h' : decide (sortI ch ∈ L) = true := h
            rw [hf] at h'; cases h'
  | succ m ih =>
    intro w x4 ch MS hm hE hbase hch hO hMl hMb hC
    refine C_s_reFinder_support ?_
    unfold V_s_reFinder_support
    refine NEW_intro fun px w1 hpx hsx hE1 hbx => ?_
    have hE01 := hE.trans hE1
    have hz1 := hE1.size_le
    have hch1 := hch.ext hE1
    have hO1 := hO.ext hE1
    have hkl : ch.length < k := by omega
    have hkc : ch.length < cfg.length := by omega
    have hlen : x4.len = ch.length := hch.len
    have hch64 := flat_ok hch.any
    rw [hc.len, hlen, hck]
    refine cond_dec (fun _ => ?_) (fun hge => by omega)
    have hxm : ∀ {w' : World}, Chg w1 w' (oB marks) → Box w' px T.t_s_reFinder [.int .i64 p.labels, .int .i64 p.degree, c.v, d.v, .int .i64 q.labels, .int .i64 q.degree, c'.v, d'.v, g1.v, g2.v] := fun hC' => hbx.chg hC' (hbx.notOwn hO1 (by decide))
    refine ⟨IN n fun x w' => Ext w0 w' ∧ base ≤ w'.heap.size ∧ Chg w1 w' (oB marks) ∧ ∃ MS', OwnL w' base T.t_int marks MS' ∧ MS'.length = N ∧ Bytes n MS' ∧ ∀ a b : Nat, a < N → ((setAt MS' (a : Int)).testBit b = true ↔ (setAt MS (a : Int)).testBit b = true ∨ ∃ y, y < x ∧ Backs n (fun e => decide (sortI e ∈ L)) S cfg (a : Int) b (ch ++ [(y : Int)])), MN n, IN_zero ⟨hE01, by omega, Chg.refl _ _, MS, hO1, hMl, hMb, fun a b _ => ⟨fun h => .inl h, fun h => h.elim (fun h => h) fun ⟨y, h1, _⟩ => absurd h1 (by omega)⟩⟩, ?_⟩
    rintro _ w2 ⟨x, rfl, hx, hE2, hz2, hC2, MS', hO2, hMl', hMb', hbits⟩
    intros
    have hb2 := hxm hC2
    refine LD_int22 (hb2.cell (i := 4) rfl) ?_
    rw [hq]
    refine cond_dec (fun hlt => ?_) (fun hge => ?_)
    · have hxn : x < n := by omega
      have hch2 : SlR (fun b => ¬ oB marks b) w2 x4 ch := hch1.chg hC2 fun b hb _ => hb
      -- what is done with a label that may not be chosen
      have skip : ∀ (w7 : World), Ext w2 w7 → (∀ a b : Nat, ¬ Backs n (fun e => decide (sortI e ∈ L)) S cfg (a : Int) b (ch ++ [(x : Int)])) →
          V_s_reFinder_support_k4 (IN n fun x w' => Ext w0 w' ∧ base ≤ w'.heap.size ∧ Chg w1 w' (oB marks) ∧ ∃ MS', OwnL w' base T.t_int marks MS' ∧ MS'.length = N ∧ Bytes n MS' ∧ ∀ a b : Nat, a < N → ((setAt MS' (a : Int)).testBit b = true ↔ (setAt MS (a : Int)).testBit b = true ∨ ∃ y, y < x ∧ Backs n (fun e => decide (sortI e ∈ L)) S cfg (a : Int) b (ch ++ [(y : Int)]))) (MN n) (x : Int) w2 w7 := fun w7 hE7 hno => by
        unfold V_s_reFinder_support_k4
        refine IN_next (by omega) hxn ⟨hE2.trans hE7, by have := hE7.size_le; omega, hC2.trans (.of_ext hE7), MS', hO2.ext hE7, hMl', hMb', fun a b ha => ?_⟩
        rw [hbits a b ha]
        constructor
        · rintro (h | ⟨y, h1, h2⟩)
          · exact .inl h
          · exact .inr ⟨y, by omega, h2⟩
        · rintro (h | ⟨y, h1, h2⟩)
          · exact .inl h
          · by_cases hyx : y = x
            · subst hyx; exact absurd h2 (hno a b)
            · exact .inr ⟨y, by omega, h2⟩
      -- what is done with a label that may be chosen
      have take : ∀ (w7 : World), Ext w2 w7 → MayBe S cfg ch x →
          V_s_reFinder_support_k5 (IN n fun x w' => Ext w0 w' ∧ base ≤ w'.heap.size ∧ Chg w1 w' (oB marks) ∧ ∃ MS', OwnL w' base T.t_int marks MS' ∧ MS'.length = N ∧ Bytes n MS' ∧ ∀ a b : Nat, a < N → ((setAt MS' (a : Int)).testBit b = true ↔ (setAt MS (a : Int)).testBit b = true ∨ ∃ y, y < x ∧ Backs n (fun e => decide (sortI e ∈ L)) S cfg (a : Int) b (ch ++ [(y : Int)]))) (MN n) w2 g config sets x4 marks px (x : Int) true w7 := fun w7 hE7 hmay => by
        unfold V_s_reFinder_support_k5
        refine cond_t rfl ?_
        intro w8 hE8 _
        have hE28 := hE7.trans hE8
        have hb8 := hb2.ext hE28
        have hO8 := hO2.ext hE28
        have hz8 := hE28.size_le
        have hch8 := hch2.ext hE28
        have hxI : I64 (x : Int) := by unfold I64; omega
        have fin : ∀ (wc : World) (r : Sl), Ext w8 wc → OwnL wc w8.heap.size T.t_int r (ch ++ [(x : Int)]) →
            Calls Tryz.prog F.s_reFinder_support #[.agg #[.int .i64 p.labels, .int .i64 p.degree, c.v, d.v, .int .i64 q.labels, .int .i64 q.degree, c'.v, d'.v, g1.v, g2.v], g.v, config.v, sets.v, r.v, marks.v] wc (Ret [] fun wd => Chg w8 wd (oB marks) ∧ V_s_reFinder_support_k4 (IN n fun x w' => Ext w0 w' ∧ base ≤ w'.heap.size ∧ Chg w1 w' (oB marks) ∧ ∃ MS', OwnL w' base T.t_int marks MS' ∧ MS'.length = N ∧ Bytes n MS' ∧ ∀ a b : Nat, a < N → ((setAt MS' (a : Int)).testBit b = true ↔ (setAt MS (a : Int)).testBit b = true ∨ ∃ y, y < x ∧ Backs n (fun e => decide (sortI e ∈ L)) S cfg (a : Int) b (ch ++ [(y : Int)]))) (MN n) (x : Int) w2 wd) := fun wc r hEc hr => by
          have hzc := hEc.size_le
          have hOc := hO8.ext hEc
          have hr64 : ∀ z ∈ ch ++ [(x : Int)], I64 z := fun z hz => by
            rcases List.mem_append.1 hz with h | h
            · exact hch64 z h
            · rw [List.mem_singleton.1 h]; exact hxI
          have hrD : SlR (fun b => ¬ oB marks b) wc r (ch ++ [(x : Int)]) := (hr.rep hr64).weak (fun b hb _ hm => by have h3 := (hO8.blk b hm).2; have h4 : w8.heap.size ≤ b := hb; omega) RepP.pos
          refine call (ih (ch := ch ++ [(x : Int)]) (by simp; omega) ((hE2.trans hE28).trans hEc) (by omega) hrD hOc hMl' hMb' (maybe_ext hC hxn hmay)) ?_
          rintro wd ⟨hEd, hCd, MSd, hOd, hMld, hMbd, hbd⟩
          refine ⟨(Chg.of_ext hEc).trans hCd, ?_⟩
          unfold V_s_reFinder_support_k4
          refine IN_next (by omega) hxn ⟨hEd, by have := hCd.size; omega, (hC2.trans (.of_ext (hE28.trans hEc))).trans hCd, MSd, hOd, hMld, hMbd, fun a b ha => ?_⟩
          rw [hbd a b ha, hbits a b ha]
          constructor
          · rintro ((h | ⟨y, h1, h2⟩) | h)
            · exact .inl h
            · exact .inr ⟨y, by omega, h2⟩
            · exact .inr ⟨x, by omega, h⟩
          · rintro (h | ⟨y, h1, h2⟩)
            · exact .inl (.inl h)
            · by_cases hyx : y = x
              · subst hyx; exact .inr h2
              · exact .inl (.inr ⟨y, by omega, h2⟩)
        have hnm : ¬ oB marks px.block := hb2.notOwn hO2 (by decide)
        refine ⟨oB marks, hnm, LD_10 hb8 ⟨?_, ?_⟩⟩
        · refine call (l1Own_ok hch8.any (by omega)) ?_
          rintro r9 w9 ⟨hE9, hO9⟩
          refine ⟨.of_ext hE9, ?_⟩
          refine RUN_lit1 (α := Int) slt_int (x : Int) rfl (by decide) fun y w10 hE10 hO10 => ⟨.of_ext (hE9.trans hE10), ?_⟩
          refine RUN_append (α := Int) slt_int (hO9.ext hE10) (by have := hE9.size_le; have := hE10.size_le; omega) (hO10.rep (by intro z hz; simp at hz; subst hz; exact hxI)).any (by simp; omega) (by simp [maxLen]; omega) fun r w11 hO11 hs11 => ?_
          have hE11 : Ext w8 w11 := hs11.ext0 (hE9.trans hE10) fun b hb => ((hO9.ext hE10).blk b hb).1
          exact ⟨.of_ext hE11, fin w11 r hE11 hO11⟩
        · refine RUN_lit1 (α := Int) slt_int (x : Int) rfl (by decide) fun y w10 hE10 hO10 => ⟨.of_ext hE10, ?_⟩
          refine call (l1Own_ok (hch8.ext hE10).any (by omega)) ?_
          rintro r9 w9 ⟨hE9, hO9⟩
          refine ⟨.of_ext (hE10.trans hE9), ?_⟩
          have hz10 := hE10.size_le
          refine RUN_append (α := Int) slt_int (hO9.low hz10) (by have := hE9.size_le; omega) ((hO10.ext hE9).rep (by intro z hz; simp at hz; subst hz; exact hxI)).any (by simp; omega) (by simp [maxLen]; omega) fun r w11 hO11 hs11 => ?_
          have hE11 : Ext w8 w11 := hs11.ext0 (hE10.trans hE9) fun b hb => (hO9.blk b hb).1 |> fun h => by omega
          exact ⟨.of_ext hE11, fin w11 r hE11 hO11⟩
      have skip5 : ∀ (w7 : World), Ext w2 w7 → (∀ a b : Nat, ¬ Backs n (fun e => decide (sortI e ∈ L)) S cfg (a : Int) b (ch ++ [(x : Int)])) →
          V_s_reFinder_support_k5 (IN n fun x w' => Ext w0 w' ∧ base ≤ w'.heap.size ∧ Chg w1 w' (oB marks) ∧ ∃ MS', OwnL w' base T.t_int marks MS' ∧ MS'.length = N ∧ Bytes n MS' ∧ ∀ a b : Nat, a < N → ((setAt MS' (a : Int)).testBit b = true ↔ (setAt MS (a : Int)).testBit b = true ∨ ∃ y, y < x ∧ Backs n (fun e => decide (sortI e ∈ L)) S cfg (a : Int) b (ch ++ [(y : Int)]))) (MN n) w2 g config sets x4 marks px (x : Int) false w7 := fun w7 hE7 hno => by
        unfold V_s_reFinder_support_k5
        exact cond_f rfl (skip w7 hE7 hno)
      refine (hc.ext hE2).ixI hkc fun a1 _ hc1 => LD_int hc1 ?_
      obtain ⟨a, ha, haN⟩ := hcN _ (List.getElem_mem hkc)
      rw [ha]
      have hal : a < S.length := by omega
      obtain ⟨eS, hSlt⟩ := bytes_at hSb hal
      refine (hS.ext hE2).ixI hal fun a2 _ hc2 => LD_int hc2 ?_
      rw [eS]
      have hbit : setAt S cfg[ch.length] = setAt S (a : Int) := by rw [ha]
      refine QCALL_bool ((setAt S (a : Int)).testBit x) (fun w' _ => call (elHas_ok (by omega) w') fun b w'' hb => ⟨hb.1, hb.2 ▸ Ext.refl _⟩) ?_
      refine cond_b (fun ht => ?_) (fun hf => fun w6 hE6 => skip5 w6 hE6 fun a' b' hB => ?_)
      · refine cond_eq (fun he => fun w3 hE3 => take w3 hE3 ?_) (fun hne => ?_)
        · have h0 : ch.length = 0 := by have : (ch.length : Int) = 0 := he; omega
          exact ⟨hkc, by rw [hbit]; exact ht, fun j hj => by omega⟩
        · have hpos : 0 < ch.length := by
            rcases Nat.eq_zero_or_pos ch.length with h0 | h0
            · exact absurd (by rw [h0]; rfl) hne
            · exact h0
          have e1 : IntKind.i64.wrap ((ch.length : Int) - 1) = ((ch.length - 1 : Nat) : Int) := by rw [wrap_of (by omega) (by omega)]; omega
          rw [e1]
          refine (hc.ext hE2).ixI (i := ch.length - 1) (by omega) fun a3 _ hc3 => LD_int hc3 ?_
          refine (hc.ext hE2).ixI hkc fun a4 _ hc4 => LD_int hc4 ?_
          refine cond_ne (fun hne2 => fun w4 hE4 => take w4 hE4 ⟨hkc, by rw [hbit]; exact ht, fun j hj he => ?_⟩) (fun heq => ?_)
          · have hjj : j = ch.length - 1 := by omega
            subst hjj
            refine absurd ?_ hne2
            rw [he]
            congr 1
          · refine hch2.ixI (i := ch.length - 1) (by omega) fun a5 _ hc5 => LD_int hc5 ?_
            intro w5 hE5
            by_cases hcx : ch[ch.length - 1] = (x : Int)
            · have e2 : (ch[ch.length - 1] == (x : Int)) = true := by rw [hcx]; exact beq_self_eq_true _
              rw [e2]
              refine take w5 hE5 ⟨hkc, by rw [hbit]; exact ht, fun j hj _ => ?_⟩
              have hjj : j = ch.length - 1 := by omega
              subst hjj
              exact hcx
            · have e2 : (ch[ch.length - 1] == (x : Int)) = false := by rw [beq_eq_false_iff_ne]; exact hcx
              rw [e2]
              refine skip5 w5 hE5 fun a' b' hB => hcx ?_
              obtain ⟨_, _, hs⟩ := maybe_of hkc hB
              refine hs (ch.length - 1) (by omega) ?_
              have e3 : cfg[ch.length - 1]'(by omega) = cfg[ch.length] := heq
              rw [e3]
              congr 1
              omega
      · obtain ⟨_, h2, _⟩ := maybe_of hkc hB
        rw [hbit, hf] at h2
        cases h2
    · have : n = x := by omega
      subst this
      refine ⟨hE2, (Chg.of_ext hE1).trans hC2, MS', hO2, hMl', hMb', fun a b ha => ?_⟩
      rw [hbits a b ha, backs_step hkc]

end Go.Proofs.YtndebacmnpghkaaGreat
end

section
/- The greatest sets of images that all configurations support: the reference. -/
namespace Go.Proofs.YtndebacmnpghkaaGreat
open Go.GX Go.RowKit
set_option maxRecDepth 100000

theorem leastW_of {p : Nat → Prop} : ∀ n, p n → ∃ m, p m ∧ ∀ k, p k → m ≤ k := by
  intro n
  induction n using Nat.strongRecOn with
  | ind n ih =>
    intro hn
    by_cases h : ∃ k, k < n ∧ p k
    · obtain ⟨k, hk, hp⟩ := h
      exact ih k hk hp
    · refine ⟨n, hn, fun k hk => ?_⟩
      by_cases hlt : k < n
      · exact absurd ⟨k, hlt, hk⟩ h
      · omega

/-- A measure of what a loop keeps besides its variables. -/
theorem ghostW {σ α : Type} (J : σ → α → World → Prop) (t : σ → Nat) : ∃ m : α → World → Nat, (∀ x w, (∃ s, J s x w) → ∃ s, J s x w ∧ t s = m x w) ∧ ∀ s x w, J s x w → m x w ≤ t s := by
  have key : ∀ x w, ∃ m : Nat, ((∃ s, J s x w) → ∃ s, J s x w ∧ t s = m) ∧ ∀ s, J s x w → m ≤ t s := by
    intro x w
    by_cases h : ∃ s, J s x w
    · obtain ⟨s, hs⟩ := h
      obtain ⟨m, ⟨s', h1, h2⟩, h3⟩ := leastW_of (p := fun n => ∃ s, J s x w ∧ t s = n) (t s) ⟨s, hs, rfl⟩
      exact ⟨m, fun _ => ⟨s', h1, h2⟩, fun s hs => h3 _ ⟨s, hs, rfl⟩⟩
    · exact ⟨0, fun h' => absurd h' h, fun s hs => absurd ⟨s, hs⟩ h⟩
  refine ⟨fun x w => Classical.choose (key x w), fun x w h => (Classical.choose_spec (key x w)).1 h, fun s x w h => (Classical.choose_spec (key x w)).2 s h⟩

theorem slr_rows {w : World} {s : Sl} {L : List (List Int)} (h : R w s L) : ∃ ss : List Sl, R w s ss ∧ ss.length = L.length ∧ ∀ i (h1 : i < ss.length) (h2 : i < L.length), R w ss[i] L[i] := by
  classical
  have hx : ∀ i (hi : i < L.length), ∃ s' : Sl, R w s' L[i] ∧ ∃ a, s.a = some a ∧ w.cell? (a.add (i * 1 + 0)) = some s'.v := fun i hi => by
    obtain ⟨a, cs, ha, _, ⟨s', rfl, hr⟩, hc⟩ := h.2.2 i L[i] (by simp [hi])
    exact ⟨s', hr.any, a, ha, hc 0 _ rfl⟩
  refine ⟨(List.range L.length).map fun i => if hi : i < L.length then (hx i hi).choose else ⟨none, 0, 0⟩, ⟨by simp [h.1], h.2.1, fun i x hxx => ?_⟩, by simp, fun i h1 h2 => ?_⟩
  · have hi : i < L.length := by
      have := (List.getElem?_eq_some_iff.1 hxx).1
      simpa using this
    have hsp := (hx i hi).choose_spec
    obtain ⟨_, a, ha, hc⟩ := hsp
    have hxe : x = (hx i hi).choose := by
      rw [List.getElem?_map, List.getElem?_range hi] at hxx
      simp only [Option.map_some, Option.some.injEq] at hxx
      rw [dif_pos hi] at hxx
      exact hxx.symm
    refine ⟨a, [x.v], ha, trivial, rfl, fun j v hv => ?_⟩
    match j, hv with
    | 0, hv =>
      simp only [List.getElem?_cons_zero, Option.some.injEq] at hv
      subst hv
      rw [hxe]
      exact hc
  · have := (hx i h2).choose_spec.1
    simp only [List.getElem_map, List.getElem_range]
    rw [dif_pos h2]
    exact this

/-! ### In plain words -/

def sumN (S : List Int) : Nat := (S.map Int.toNat).sum

theorem sum_set {S : List Int} {a : Nat} (ha : a < S.length) {v : Int} (hv : v.toNat < S[a].toNat) : sumN (S.set a v) < sumN S := by
  unfold sumN
  have h1 : S = S.take a ++ S[a] :: S.drop (a + 1) := by rw [← List.drop_eq_getElem_cons ha, List.take_append_drop]
  rw [List.set_eq_take_append_cons_drop, if_pos ha]
  conv => rhs; rw [h1]
  simp only [List.map_append, List.map_cons, List.sum_append, List.sum_cons]
  omega

structure NarP (p q : Prob) (n N : Nat) (S0 S : List Int) : Prop where
  len : S.length = N
  bytes : Bytes n S
  sub : ∀ a b : Nat, a < N → (setAt S (a : Int)).testBit b = true → (setAt S0 (a : Int)).testBit b = true
  keep : ∀ g, MapOk p q g → Under g S0 → Under g S

def confE (p : Prob) : List (List Int) := p.edges ++ p.nodes
def goodE (p q : Prob) (k : Nat) : List Int → Bool := if k < p.edges.length then nodeB2 q else nodeB q

/-- All configurations support the sets. -/
def AllSup (p q : Prob) (n : Nat) (S : List Int) : Prop := ∀ k (hk : k < (confE p).length), Sup n (goodE p q k) S (confE p)[k]

theorem AllSup.nodes {p q : Prob} {n : Nat} {S : List Int} (h : AllSup p q n S) : (∀ c ∈ p.nodes, Sup n (nodeB q) S c) ∧ ∀ c ∈ p.edges, Sup n (nodeB2 q) S c := by
  constructor
  · intro c hc
    obtain ⟨i, hi, rfl⟩ := List.mem_iff_getElem.1 hc
    have h1 := h (p.edges.length + i) (by unfold confE; simp; omega)
    unfold goodE at h1
    rw [if_neg (by omega)] at h1
    have e : (confE p)[p.edges.length + i]'(by unfold confE; simp; omega) = p.nodes[i] := by
      unfold confE
      rw [List.getElem_append_right (by omega)]
      congr 1
      omega
    rwa [e] at h1
  · intro c hc
    obtain ⟨i, hi, rfl⟩ := List.mem_iff_getElem.1 hc
    have h1 := h i (by unfold confE; simp; omega)
    unfold goodE at h1
    rw [if_pos hi] at h1
    have e : (confE p)[i]'(by unfold confE; simp; omega) = p.edges[i] := by
      unfold confE
      rw [List.getElem_append_left hi]
    rwa [e] at h1

/-- What is known of a configuration of the list of both kinds. -/
structure CfgOk (p q : Prob) (N kk : Nat) (L : List (List Int)) (good : List Int → Bool) (cfg : List Int) : Prop where
  len : cfg.length = kk
  pos : 1 ≤ kk ∧ kk ≤ 4
  labs : ∀ x ∈ cfg, ∃ a : Nat, x = a ∧ a < N
  gd : good = fun e => decide (sortI e ∈ L)
  maps : ∀ g, MapOk p q g → good (img g cfg) = true

theorem and_bits {s m : Nat} : s &&& m = s ↔ ∀ b, s.testBit b = true → m.testBit b = true := by
  constructor
  · intro h b hb
    rw [← h, Nat.testBit_and, Bool.and_eq_true] at hb
    exact hb.2
  · intro h
    apply Nat.eq_of_testBit_eq
    intro b
    rw [Nat.testBit_and]
    cases hb : s.testBit b with
    | false => rfl
    | true => rw [h b hb]; rfl

/-! ### One configuration -/

set_option maxHeartbeats 1600000 in
theorem narrow_k5 {w0 w8 : World} {base n N kk : Nat} {p q : Prob} {c d c' d' g1 g2 g row out : Sl} {px : Addr} {L : List (List Int)} {good : List Int → Bool} {cfg S S0 : List Int} {ag : Bool} {I6 : Bool → Int → World → Prop} {m6 : Bool → Int → World → Nat} {k : Int}
    (hq : q.labels = (n : Int)) (hp : p.labels = (N : Int)) (hn : 1 ≤ n ∧ n ≤ 8) (hN : N ≤ 8) (hE : Ext w0 w8) (hbase : base ≤ w8.heap.size) (hb0 : w0.heap.size ≤ base) (hpx : w0.heap.size ≤ px.block) (hB : FinB w8 px p q c d c' d' g1 g2) (hO : OwnL w8 base T.t_int out S) (hS : NarP p q n N S0 S) (hrow : R w0 row cfg) (hC : CfgOk p q N kk L good cfg) (hT : TabR w0 g n kk L)
    (hnext : ∀ (ag' : Bool) (w' : World) (S' : List Int), Ext w0 w' → base ≤ w'.heap.size → Chg w8 w' (oB out) → OwnL w' base T.t_int out S' → NarP p q n N S0 S' → ((ag' = ag ∧ S' = S ∧ Sup n good S cfg) ∨ (ag' = true ∧ sumN S' < sumN S)) → I6 ag' (IntKind.i64.wrap (k + 1)) w' ∧ m6 ag' (IntKind.i64.wrap (k + 1)) w' < m6 ag k w8) :
    V_s_reFinder_narrow_k5 I6 m6 k w8 px out ag row g w8 := by
  unfold V_s_reFinder_narrow_k5
  have hmb : 2 ^ n ≤ 256 := by
    have : 2 ^ n ≤ 2 ^ 8 := Nat.pow_le_pow_right (by decide) hn.2
    have e : (2 : Nat) ^ 8 = 256 := by decide
    omega
  refine LD_int22 (hB.cell (i := 0) rfl) ?_
  rw [hp]
  refine RUN_makeI rfl (by omega) fun marks w10 hE10 hM0 => ?_
  have hz10 := hE10.size_le
  refine LD_10 (hB.ext hE10) ?_
  have h64 := bytes_I64 hn.2 hS.bytes
  have hzero : Bytes n (List.replicate N (0 : Int)) := fun x hx => ⟨0, by rw [(List.mem_replicate.1 hx).2]; rfl, by have := Nat.two_pow_pos n; omega⟩
  have hnilD : SlR (fun b => ¬ oB marks b) w10 (⟨none, 0, 0⟩ : Sl) ([] : List Int) := ⟨rfl, ⟨Nat.le_refl _, Nat.zero_le _⟩, fun i x h => by simp at h⟩
  have hsup := support_ok (w0 := w8) (base := w8.heap.size) (p := p) (q := q) (c := c) (d := d) (c' := c') (d' := d') (g1 := g1) (g2 := g2) (g := g) (config := row) (sets := out) (marks := marks) (cfg := cfg) (S := S) (L := L) (n := n) (N := N) (k := kk) hq hn hC.pos (hT.ext hE) (hrow.ext hE) hC.len (hO.rep h64).any hS.len hS.bytes hC.labs hN (Nat.le_refl _) kk (w := w10) (x4 := ⟨none, 0, 0⟩) (ch := []) (MS := List.replicate N 0) (Nat.zero_add _) hE10 hz10 hnilD hM0 (List.length_replicate) hzero (ChoiceOf.nil _ _ _)
  refine call hsup ?_
  rintro w11 ⟨hE11, hC11, MS, hM, hMl, hMb, hbits⟩
  have hMbits : ∀ a b : Nat, a < N → ((setAt MS (a : Int)).testBit b = true ↔ Backs n good S cfg (a : Int) b []) := fun a b ha => by
    rw [hbits a b ha, hC.gd]
    constructor
    · rintro (h | h)
      · exfalso
        have : setAt (List.replicate N (0 : Int)) (a : Int) = 0 := by
          unfold setAt
          rw [Int.toNat_natCast, get_at (by simpa using ha)]
          simp
        rw [this, Nat.zero_testBit] at h
        cases h
      · exact h
    · exact fun h => .inr h
  have hO11 := hO.ext hE11
  have hz11 := hE11.size_le
  have hB11 := hB.ext hE11
  have hom : ∀ b, oB out b → ¬ oB marks b := fun b h1 h2 => by
    have := (hO.blk b h1).2
    have := (hM.blk b h2).1
    omega
  have hrl : row.len = cfg.length := hrow.len
  have hcl4 := hC.len
  have hkp4 := hC.pos
  rw [hrl]
  refine ⟨IN2 cfg.length fun i (ag' : Bool) w' => Ext w0 w' ∧ base ≤ w'.heap.size ∧ Chg w11 w' (oB out) ∧ OwnL w' w8.heap.size T.t_int marks MS ∧ ∃ S', OwnL w' base T.t_int out S' ∧ S'.length = N ∧ Bytes n S' ∧ (∀ a : Nat, a < N → setAt S' (a : Int) = setAt S (a : Int) ∨ ((a : Int) ∈ cfg ∧ setAt S' (a : Int) = setAt S (a : Int) &&& setAt MS (a : Int))) ∧ ((ag' = ag ∧ S' = S ∧ ∀ j (hj : j < cfg.length), j < i → setAt S cfg[j] &&& setAt MS cfg[j] = setAt S cfg[j]) ∨ (ag' = true ∧ sumN S' < sumN S)), MN2 cfg.length,
    IN2_zero ⟨hE.trans hE11, by omega, Chg.refl _ _, hM, S, hO11, hS.len, hS.bytes, fun a _ => .inl rfl, .inl ⟨rfl, rfl, fun j _ hj => absurd hj (by omega)⟩⟩, ?_⟩
  rintro ag3 _ w12 ⟨i, rfl, hi, hE12, hz12, hC12, hM12, S', hO12, hSl, hSb, hform, hcase⟩
  intros
  refine cond_dec (fun hlt => ?_) (fun hge => ?_)
  · have hi' : i < cfg.length := by omega
    refine (hrow.ext hE12).ixI hi' fun a1 _ hc1 => LD_int hc1 ?_
    obtain ⟨a, ha, haN⟩ := hC.labs _ (List.getElem_mem hi')
    rw [ha]
    have hal : a < S'.length := by omega
    have hml : a < MS.length := by omega
    obtain ⟨eS, hSlt⟩ := bytes_at hSb hal
    obtain ⟨eM, hMlt⟩ := bytes_at hMb hml
    have h64' := bytes_I64 hn.2 hSb
    have hRs := (hO12.rep h64').any
    have hRm := (hM12.rep (bytes_I64 hn.2 hMb)).any
    refine hRs.ixI hal fun a2 _ hc2 => LD_int hc2 ?_
    refine hRm.ixI hml fun a3 _ hc3 => LD_int hc3 ?_
    refine hRs.ixI hal fun a4 _ hc4 => LD_int hc4 ?_
    rw [eS, eM, and_nat (by omega) (by omega)]
    have hle := Nat.and_le_left (n := setAt S' (a : Int)) (m := setAt MS (a : Int))
    intro w13 hE13
    refine cond_ne (fun hne => ?_) (fun heq => ?_)
    · intro w14 hE14 _
      have hE124 := hE13.trans hE14
      refine ⟨fun _ => False, ?_⟩
      have hO14 := hO12.ext hE124
      refine ((hO14.rep h64').any).ixI hal fun a5 _ hc5 => ⟨fun h => h, LD_int hc5 ⟨Chg.refl _ _, ?_⟩⟩
      refine (((hM12.ext hE124).rep (bytes_I64 hn.2 hMb)).any).ixI hml fun a6 _ hc6 => ⟨Chg.refl _ _, LD_int hc6 ⟨Chg.refl _ _, Chg.refl _ _, ?_⟩⟩
      refine IX_own hO14 hal rfl fun a7 ha7 => ?_
      rw [eS, eM, and_nat (by omega) (by omega)]
      refine ST_own hO14 hal ha7 ((setAt S' (a : Int) &&& setAt MS (a : Int) : Nat) : Int) rfl fun w15 hO15 hs15 => ?_
      have hM14 := hM12.ext hE124
      have hlt2 : setAt S' (a : Int) &&& setAt MS (a : Int) < setAt S' (a : Int) := by
        rcases Nat.lt_or_eq_of_le hle with h | h
        · exact h
        · exact absurd (by rw [h]) hne
      have hsum : sumN (S'.set a ((setAt S' (a : Int) &&& setAt MS (a : Int) : Nat) : Int)) < sumN S' := sum_set hal (by rw [eS, Int.toNat_natCast, Int.toNat_natCast]; exact hlt2)
      have hz14 := hE124.size_le
      have hz15 := hs15.size
      refine IN2_next (by omega) hi' ⟨hs15.ext0 (hE12.trans hE124) fun b hb => by have := (hO14.blk b hb).1; omega, by omega, (hC12.trans (.of_ext hE124)).trans (.of_step hs15 fun b hb => hb), hM14.keep fun b hb => hs15.block b (hM14.blk b hb).2 fun he => hom b he.symm hb, _, hO15, by simp [hSl], bytes_set hSb (by omega), fun a' ha' => ?_, .inr ⟨rfl, ?_⟩⟩
      · rw [setAt_set hal]
        by_cases haa : a' = a
        · subst haa
          rw [if_pos rfl]
          right
          refine ⟨by rw [← ha]; exact List.getElem_mem hi', ?_⟩
          rcases hform a' ha' with h | ⟨_, h⟩
          · rw [h]
          · rw [h, Nat.and_assoc, Nat.and_self]
        · rw [if_neg haa]
          exact hform a' ha'
      · rcases hcase with ⟨_, rfl, _⟩ | ⟨_, h⟩
        · exact hsum
        · omega
    · have heq' : setAt S' (a : Int) &&& setAt MS (a : Int) = setAt S' (a : Int) := by
        have : ((setAt S' (a : Int) &&& setAt MS (a : Int) : Nat) : Int) = ((setAt S' (a : Int) : Nat) : Int) := heq
        omega
      have hz13 := hE13.size_le
      refine IN2_next (by omega) hi' ⟨hE12.trans hE13, by omega, hC12.trans (.of_ext hE13), hM12.ext hE13, S', hO12.ext hE13, hSl, hSb, hform, ?_⟩
      rcases hcase with ⟨h1, rfl, h3⟩ | h
      · refine .inl ⟨h1, rfl, fun j hj hji => ?_⟩
        by_cases hjj : j = i
        · subst hjj; rw [ha]; exact heq'
        · exact h3 j hj (by omega)
      · exact .inr h
  · have : i = cfg.length := by omega
    subst this
    have hNar : NarP p q n N S0 S' := by
      refine ⟨hSl, hSb, fun a b ha hb => ?_, fun gm hgm hU => ?_⟩
      · rcases hform a ha with h | ⟨_, h⟩
        · rw [h] at hb; exact hS.sub a b ha hb
        · rw [h, Nat.testBit_and, Bool.and_eq_true] at hb
          exact hS.sub a b ha hb.1
      · have hUS := hS.keep gm hgm hU
        intro a ha
        have hgl := hgm.len
        have haN : a < N := by omega
        rcases hform a haN with h | ⟨hac, h⟩
        · rw [h]; exact hUS a ha
        · rw [h, Nat.testBit_and, hUS a ha, Bool.true_and, hMbits a _ haN]
          have hb := under_backs (k := n) (S := S) (c := cfg) (g := gm) (labels := p.labels) (good := good) (by have := hgm.labs; rw [hq] at this; exact this) (fun x hx => by obtain ⟨a', rfl, ha'⟩ := hC.labs x hx; omega) hgl hUS (hC.maps gm hgm) hac
          rwa [Int.toNat_natCast] at hb
    refine hnext ag3 w12 S' hE12 hz12 (((Chg.of_ext hE11)).trans hC12) hO12 hNar ?_
    rcases hcase with ⟨h1, rfl, h3⟩ | h
    · refine .inl ⟨h1, rfl, fun a hac b hb => ?_⟩
      obtain ⟨j, hj, rfl⟩ := List.mem_iff_getElem.1 hac
      have h4 := and_bits.1 (h3 j hj hj) b hb
      obtain ⟨a', ha', haN'⟩ := hC.labs _ (List.getElem_mem hj)
      rw [ha'] at h4 ⊢
      exact (hMbits a' b haN').1 h4
    · exact .inr h

end Go.Proofs.YtndebacmnpghkaaGreat
end

section
/- The greatest sets of images, and the search within them: the reference's first label map. -/
namespace Go.Proofs.YtndebacmnpghkaaGreat
open Go.GX Go.RowKit
set_option maxRecDepth 100000

theorem confE_len (p : Prob) : (confE p).length = p.edges.length + p.nodes.length := by unfold confE; simp
theorem confE_e {p : Prob} {i : Nat} (hi : i < p.edges.length) : (confE p)[i]'(by rw [confE_len]; omega) = p.edges[i] := by
  unfold confE
  rw [List.getElem_append_left hi]
theorem confE_n {p : Prob} {i : Nat} (hi : p.edges.length ≤ i) (h : i < (confE p).length) : (confE p)[i] = p.nodes[i - p.edges.length]'(by rw [confE_len] at h; omega) := by
  simp only [confE]
  exact List.getElem_append_right hi

theorem cfg_e {p q : Prob} (hp : PGood p) {i : Nat} (hi : i < p.edges.length) : CfgOk p q p.labels.toNat 2 q.edges (nodeB2 q) p.edges[i] := by
  obtain ⟨r1, r2, r3⟩ := hp.edges.row i hi
  refine ⟨by omega, by omega, fun x hx => ?_, rfl, fun g hg => ?_⟩
  · have := r3 x hx
    exact ⟨x.toNat, by omega, by omega⟩
  · exact decide_eq_true (hg.edges _ (List.getElem_mem hi))
theorem cfg_n {p q : Prob} (hp : PGood p) {i : Nat} (hi : i < p.nodes.length) : CfgOk p q p.labels.toNat p.degree.toNat q.nodes (nodeB q) p.nodes[i] := by
  obtain ⟨r1, r2, r3⟩ := hp.nodes.row i hi
  have hd := hp.deg
  refine ⟨by omega, by omega, fun x hx => ?_, rfl, fun g hg => ?_⟩
  · have := r3 x hx
    exact ⟨x.toNat, by omega, by omega⟩
  · exact decide_eq_true (hg.nodes _ (List.getElem_mem hi))

theorem own_ne {α β : Type} [Flat α] [Flat β] {w : World} {base base' : Nat} {e e' : TypeId} {s s' : Sl} {l : List α} {l' : List β} (h : OwnL w base e s l) (h' : OwnL w base' e' s' l') (hne : e ≠ e') : ∀ b, s.v.ownBlock = some b → ¬ oB s' b := fun b hb hb' => by
  obtain ⟨c1, e1⟩ := h.type hb
  obtain ⟨c2, e2⟩ := h'.type hb'
  rw [e1] at e2
  exact hne (Obj.cells.inj (Option.some.inj e2)).2.1

def NwIs (p q : Prob) (n N : Nat) (S0 : List Int) (w : World) (r : Sl) (ok : Bool) (w' : World) : Prop :=
  Ext w w' ∧ ∃ S, OwnL w' w.heap.size T.t_int r S ∧ NarP p q n N S0 S ∧ AllSup p q n S ∧ (ok = true ↔ ∀ a : Nat, a < N → setAt S (a : Int) ≠ 0)

/-- What the finder knows. -/
structure Fin0 (w : World) (p q : Prob) (c d g1 g2 : Sl) : Prop where
  hp : PGood p
  hq : PGood q
  deg : p.degree = q.degree
  prob : RProb w c d p
  t1 : TabR w g1 q.labels.toNat q.degree.toNat q.nodes
  t2 : TabR w g2 q.labels.toNat 2 q.edges
theorem Fin0.ext {w w' : World} {p q : Prob} {c d g1 g2 : Sl} (h : Fin0 w p q c d g1 g2) (hE : Ext w w') : Fin0 w' p q c d g1 g2 := ⟨h.hp, h.hq, h.deg, h.prob.ext hE, h.t1.ext hE, h.t2.ext hE⟩

set_option maxHeartbeats 1600000 in
theorem narrow_ok {w : World} {p q : Prob} {c d c' d' g1 g2 s : Sl} {S0 : List Int} {N n : Nat} (hF : Fin0 w p q c d g1 g2) (hsp : SmallP p) (hs : R w s S0) (hN : N = p.labels.toNat) (hn : n = q.labels.toNat) (hSl : S0.length = N) (hSb : Bytes n S0) :
    Calls Tryz.prog F.s_reFinder_narrow #[.agg #[.int .i64 p.labels, .int .i64 p.degree, c.v, d.v, .int .i64 q.labels, .int .i64 q.degree, c'.v, d'.v, g1.v, g2.v], s.v] w (Ret [.at .sl, .at .bool] fun (r : Sl) (ok : Bool) w' => NwIs p q n N S0 w r ok w') := by
  refine C_s_reFinder_narrow ?_
  unfold V_s_reFinder_narrow
  obtain ⟨hp, hq, hdeg, hP, hT1, hT2⟩ := hF
  have hlp := hp.lab
  have hlq := hq.lab
  have hdp := hp.deg
  have hdq := hq.deg
  have hpN : p.labels = (N : Int) := by omega
  have hqn : q.labels = (n : Int) := by omega
  rw [← hn] at hT1 hT2
  refine NEW_intro fun px w1 hpx hsx hE1 hB1 => ?_
  refine call (l1Own_ok (hs.ext hE1) (by omega)) ?_
  rintro out w2 ⟨hE2, hO2⟩
  have hz1 : w1.heap.size = w.heap.size + 1 := hsx
  have hz2 := hE2.size_le
  have hB2 : FinB w2 px p q c d c' d' g1 g2 := Box.ext hB1 hE2
  have h0 : NarP p q n N S0 S0 := ⟨hSl, hSb, fun _ _ _ h => h, fun _ _ h => h⟩
  obtain ⟨m3, hm1, hm2⟩ := ghostW (fun (sb : List Int × Bool) (x : Bool) (w' : World) => x = sb.2 ∧ Ext w w' ∧ w1.heap.size ≤ w'.heap.size ∧ FinB w' px p q c d c' d' g1 g2 ∧ OwnL w' w1.heap.size T.t_int out sb.1 ∧ NarP p q n N S0 sb.1 ∧ (sb.2 = false → AllSup p q n sb.1)) (fun sb => if sb.2 then 1 + sumN sb.1 else 0)
  refine ⟨fun x w' => ∃ sb : List Int × Bool, x = sb.2 ∧ Ext w w' ∧ w1.heap.size ≤ w'.heap.size ∧ FinB w' px p q c d c' d' g1 g2 ∧ OwnL w' w1.heap.size T.t_int out sb.1 ∧ NarP p q n N S0 sb.1 ∧ (sb.2 = false → AllSup p q n sb.1), m3, ⟨(S0, true), rfl, hE1.trans hE2, hz2, hB2, hO2, h0, fun h => by cases h⟩, ?_⟩
  rintro ag w3 hJ
  intros
  obtain ⟨⟨S1, b⟩, ⟨hb, hE3, hz3, hB3, hO3, hN3, hA3⟩, ht⟩ := hm1 _ _ hJ
  simp only at hb hO3 hN3 hA3 ht
  subst hb
  cases ag with
  | false =>
    refine cond_f rfl ?_
    refine call (l1Has_ok (hO3.rep (bytes_I64 (by omega) hN3.bytes)).any 0) ?_
    rintro v w16 ⟨hv, rfl⟩
    refine ⟨hE3, S1, hO3.low (by omega), hN3, hA3 rfl, ?_⟩
    rw [hv]
    constructor
    · intro hc a ha h0
      have hal : a < S1.length := by rw [hN3.len]; exact ha
      have hcon : S1.contains 0 = true := by
        rw [List.contains_iff_mem]
        have := (bytes_at hN3.bytes hal).1
        rw [h0] at this
        have h1 := List.getElem_mem hal
        rw [this] at h1
        exact h1
      rw [hcon] at hc
      cases hc
    · intro hall
      cases hcon : S1.contains 0 with
      | false => rfl
      | true =>
        exfalso
        rw [List.contains_iff_mem] at hcon
        obtain ⟨a, ha, h0⟩ := List.mem_iff_getElem.1 hcon
        have h1 := (bytes_at hN3.bytes ha).1
        rw [h0] at h1
        exact hall a (by rw [← hN3.len]; exact ha) (by omega)
  | true =>
    refine cond_t rfl ?_
    intro w4 hE4 _
    have hE04 := hE3.trans hE4
    have hz4 := hE4.size_le
    have hB4 := hB3.ext hE4
    have hO4 := hO3.ext hE4
    refine ⟨fun _ => False, fun h => h, LD_sl2 (hB4.cell (i := 3) rfl) ⟨fun h => h, LD_sl2 (hB4.cell (i := 2) rfl) ?_⟩⟩
    obtain ⟨sse, hse, hsel, hser⟩ := slr_rows hP.edges
    obtain ⟨ssn, hsn, hsnl, hsnr⟩ := slr_rows hP.nodes
    have hm1l := hsp.1.1
    have hm2l := hsp.2.1
    refine RUN_lit0 (α := Sl) slt_rows fun x17 w5 hE5 hO5 => ⟨.of_ext hE5, ?_⟩
    have hz5 := hE5.size_le
    refine RUN_append (α := Sl) slt_rows hO5 (by omega) (hse.ext (hE04.trans hE5)) (by simp; omega) (by simp [maxLen]; omega) fun x21 w6 hO6 hs6 => ?_
    have hE46 : Ext w4 w6 := hs6.ext0 hE5 fun k hk => (hO5.blk k hk).1
    have hz6 := hE46.size_le
    refine ⟨.of_ext hE46, ?_⟩
    refine RUN_append (α := Sl) slt_rows hO6 (by omega) (hsn.ext (hE04.trans hE46)) (by simp; omega) (by simp [maxLen]; omega) fun x25 w7 hO7 hs7 => ?_
    have hE47 : Ext w4 w7 := hs7.ext0 hE46 fun k hk => (hO6.blk k hk).1
    have hz7 := hE47.size_le
    refine ⟨.of_ext hE47, .of_ext hE47, ?_⟩
    rw [List.nil_append] at hO7
    have hxl : x25.len = (confE p).length := by rw [hO7.1, List.length_append, hsel, hsnl, confE_len]
    rw [hxl]
    have hcl := confE_len p
    refine ⟨IN2 (confE p).length fun i (ag2 : Bool) w' => Ext w w' ∧ w1.heap.size ≤ w'.heap.size ∧ FinB w' px p q c d c' d' g1 g2 ∧ OwnL w' w4.heap.size T.t_sl_int x25 (sse ++ ssn) ∧ ∃ S, OwnL w' w1.heap.size T.t_int out S ∧ NarP p q n N S0 S ∧ ((ag2 = false ∧ S = S1 ∧ ∀ j (hj : j < (confE p).length), j < i → Sup n (goodE p q j) S (confE p)[j]) ∨ (ag2 = true ∧ sumN S < sumN S1)), MN2 (confE p).length,
      IN2_zero ⟨hE04.trans hE47, by omega, hB4.ext hE47, hO7, S1, hO4.ext hE47, hN3, .inl ⟨rfl, rfl, fun j _ hj => absurd hj (by omega)⟩⟩, ?_⟩
    rintro ag2 _ w8 ⟨i, rfl, hi, hE8, hz8, hB8, hx8, S, hO8, hN8, hcase⟩
    intros
    refine cond_dec (fun hlt => ?_) (fun hge => ?_)
    · have hi' : i < (confE p).length := by omega
      have hil : i < (sse ++ ssn).length := by rw [List.length_append, hsel, hsnl]; omega
      refine (hx8.rep fun _ _ => trivial).ixS hil fun a1 hc1 => LD_sl hc1 ?_
      refine LD_sl (hB8.cell (i := 8) rfl) ?_
      refine LD_sl2 (hB8.cell (i := 3) rfl) ?_
      rw [hP.edges.len]
      have hnext : ∀ (good : List Int → Bool), good = goodE p q i → ∀ (ag' : Bool) (w' : World) (S' : List Int), Ext w w' → w1.heap.size ≤ w'.heap.size → Chg w8 w' (oB out) → OwnL w' w1.heap.size T.t_int out S' → NarP p q n N S0 S' → ((ag' = ag2 ∧ S' = S ∧ Sup n good S (confE p)[i]) ∨ (ag' = true ∧ sumN S' < sumN S)) →
          (IN2 (confE p).length fun i (ag2 : Bool) w' => Ext w w' ∧ w1.heap.size ≤ w'.heap.size ∧ FinB w' px p q c d c' d' g1 g2 ∧ OwnL w' w4.heap.size T.t_sl_int x25 (sse ++ ssn) ∧ ∃ S, OwnL w' w1.heap.size T.t_int out S ∧ NarP p q n N S0 S ∧ ((ag2 = false ∧ S = S1 ∧ ∀ j (hj : j < (confE p).length), j < i → Sup n (goodE p q j) S (confE p)[j]) ∨ (ag2 = true ∧ sumN S < sumN S1))) ag' (IntKind.i64.wrap ((i : Int) + 1)) w' ∧ MN2 (confE p).length ag' (IntKind.i64.wrap ((i : Int) + 1)) w' < MN2 (confE p).length ag2 (i : Int) w8 := by
        rintro good rfl ag' w' S' hE' hz' hC' hO' hN' hcs
        refine IN2_next (by omega) hi' ⟨hE', hz', hB8.chg hC' (hB8.notOwn hO8 (by decide)), hx8.chg hC' (own_ne hx8 hO8 (by decide)), S', hO', hN', ?_⟩
        rcases hcs with ⟨rfl, rfl, hsu⟩ | ⟨rfl, hlt2⟩
        · rcases hcase with ⟨h1, h2, h3⟩ | h
          · refine .inl ⟨h1, h2, fun j hj hji => ?_⟩
            by_cases hjj : j = i
            · subst hjj; exact hsu
            · exact h3 j hj (by omega)
          · exact .inr h
        · refine .inr ⟨rfl, ?_⟩
          rcases hcase with ⟨_, rfl, _⟩ | ⟨_, h⟩
          · exact hlt2
          · omega
      refine cond_dec (fun hlt2 => LD_sl (hB8.cell (i := 9) rfl) ?_) (fun hge2 => ?_)
      · have hie : i < p.edges.length := by omega
        have e1 : (sse ++ ssn)[i] = sse[i]'(by omega) := List.getElem_append_left (by omega)
        rw [e1]
        have hrow := hser i (by omega) hie
        have hC := cfg_e (q := q) hp hie
        rw [← hN] at hC
        have hg : goodE p q i = nodeB2 q := by unfold goodE; rw [if_pos hie]
        refine narrow_k5 (w0 := w) (base := w1.heap.size) (n := n) (N := N) (kk := 2) (p := p) (q := q) (S := S) (S0 := S0) (cfg := p.edges[i]) (L := q.edges) (good := nodeB2 q) hqn hpN (by omega) (by omega) hE8 hz8 (by omega) (by omega) hB8 hO8 hN8 hrow hC hT2 ?_
        have := hnext (nodeB2 q) hg.symm
        rw [confE_e hie] at this
        exact this
      · have hin : p.edges.length ≤ i := by omega
        have hie : i - p.edges.length < p.nodes.length := by omega
        have e1 : (sse ++ ssn)[i] = ssn[i - p.edges.length]'(by omega) := by
          rw [List.getElem_append_right (by omega)]
          congr 1
          omega
        rw [e1]
        have hrow := hsnr (i - p.edges.length) (by omega) hie
        have hC := cfg_n (q := q) hp hie
        rw [← hN, hdeg] at hC
        have hg : goodE p q i = nodeB q := by unfold goodE; rw [if_neg (by omega)]
        refine narrow_k5 (w0 := w) (base := w1.heap.size) (n := n) (N := N) (kk := q.degree.toNat) (p := p) (q := q) (S := S) (S0 := S0) (cfg := p.nodes[i - p.edges.length]) (L := q.nodes) (good := nodeB q) hqn hpN (by omega) (by omega) hE8 hz8 (by omega) (by omega) hB8 hO8 hN8 hrow hC hT1 ?_
        have := hnext (nodeB q) hg.symm
        rw [confE_n hin hi'] at this
        exact this
    · have : i = (confE p).length := by omega
      subst this
      refine ⟨⟨(S, ag2), rfl, hE8, hz8, hB8, hO8, hN8, fun hf => ?_⟩, ?_⟩
      · rcases hcase with ⟨_, _, h⟩ | ⟨h, _⟩
        · exact fun k hk => h k hk hk
        · simp only at hf; rw [h] at hf; cases hf
      · have hle := hm2 (S, ag2) ag2 w8 ⟨rfl, hE8, hz8, hB8, hO8, hN8, fun hf => by
          rcases hcase with ⟨_, _, h⟩ | ⟨h, _⟩
          · exact fun k hk => h k hk hk
          · simp only at hf; rw [h] at hf; cases hf⟩
        simp only [if_true] at ht
        rcases hcase with ⟨rfl, _, _⟩ | ⟨rfl, h⟩
        · simp only [Bool.false_eq_true, if_false] at hle
          omega
        · simp only [if_true] at hle
          omega

end Go.Proofs.YtndebacmnpghkaaGreat
end

section
/- The first label map between two problems: LabelMapBetween, both sides. -/
namespace Go.Proofs.YtndebacmnpghkaaGreat
open Go.GX Go.RowKit
set_option maxRecDepth 100000

structure GrowOk (p q : Prob) (n N : Nat) (f S : List Int) : Prop where
  len : S.length = N
  bytes : Bytes n S
  sup : AllSup p q n S
  ne : ∀ a : Nat, a < N → setAt S (a : Int) ≠ 0
  low : ∀ a : Nat, a < f.length → ∀ b, (setAt S (a : Int)).testBit b = true → (b : Int) = f.getD a 0
  labs : AllIn f 0 (q.labels - 1)
  keep : ∀ g, MapOk p q (f ++ g) → Under (f ++ g) S

theorem bit_lt {n s b : Nat} (hs : s < 2 ^ n) (hb : s.testBit b = true) : b < n := by
  rcases Nat.lt_or_ge b n with h | h
  · exact h
  · have h1 : 2 ^ n ≤ 2 ^ b := Nat.pow_le_pow_right (by decide) h
    rw [Nat.testBit_lt_two_pow (by omega)] at hb
    cases hb

theorem labsOf_sorted (m : Nat) : (labsOf m).Pairwise (· < ·) := by
  unfold labsOf
  rw [List.pairwise_map]
  refine List.Pairwise.imp (fun h => by omega) (List.Pairwise.filter _ List.pairwise_lt_range)

theorem under_none {p q : Prob} {N : Nat} {f S : List Int} (hN : p.labels = (N : Int)) {a : Nat} (ha : a < N) (h0 : setAt S (a : Int) = 0) (hk : ∀ g, MapOk p q (f ++ g) → Under (f ++ g) S) : ∀ g, ¬ MapOk p q (f ++ g) := fun g hg => by
  have h1 := hk g hg a (by have := hg.len; omega)
  rw [h0, Nat.zero_testBit] at h1
  cases h1

set_option maxHeartbeats 1600000 in
theorem grow_ok {p q : Prob} {c d c' d' g1 g2 : Sl} {N n : Nat} (lo : Nat) (hsp : SmallP p) (hN : N = p.labels.toNat) (hn : n = q.labels.toNat) :
    ∀ (m : Nat) {w : World} {fs ss : Sl} {f S : List Int}, f.length + m = N → Fin0 w p q c d g1 g2 → lo ≤ w.heap.size → OwnL w lo T.t_int fs f → (∀ x ∈ f, I64 x) → R w ss S → GrowOk p q n N f S →
      Calls Tryz.prog F.s_reFinder_grow #[.agg #[.int .i64 p.labels, .int .i64 p.degree, c.v, d.v, .int .i64 q.labels, .int .i64 q.degree, c'.v, d'.v, g1.v, g2.v], fs.v, ss.v] w (Ret [.at .sl, .at .bool] fun (r : Sl) (ok : Bool) w' => Ext w w' ∧ match bestM p q m f with | some h => ok = true ∧ OwnL w' lo T.t_int r h | none => ok = false) := by
  intro m
  induction m with
  | zero =>
    intro w fs ss f S hm hF hlo hfD hf64 hS hG
    have hf := (hfD.rep hf64).any
    refine C_s_reFinder_grow ?_
    unfold V_s_reFinder_grow
    refine NEW_intro fun px w1 hpx hsx hE1 hB1 => LD_int22 (hB1.cell (i := 0) rfl) ?_
    have hlp := hF.hp.lab
    rw [hf.len]
    refine cond_eq (fun _ => ?_) (fun hne => absurd (by show (f.length : Int) = p.labels; omega) hne)
    have hmap : MapOk p q f := by
      refine sup_map hF.hp (S := S) (by omega) hG.labs (fun a ha => hG.ne a (by omega)) (fun a ha => hG.low a ha) ?_ ?_
      · rw [← hn]; exact hG.sup.nodes.1
      · rw [← hn]; exact hG.sup.nodes.2
    rw [show bestM p q 0 f = some f by rw [bestM, if_pos hmap]]
    exact ⟨hE1, rfl, hfD.ext hE1⟩
  | succ m ih =>
    intro w fs ss f S hm hF hlo hfD hf64 hS hG
    have hf := (hfD.rep hf64).any
    refine C_s_reFinder_grow ?_
    unfold V_s_reFinder_grow
    refine NEW_intro fun px w1 hpx hsx hE1 hB1 => LD_int22 (hB1.cell (i := 0) rfl) ?_
    have hlp := hF.hp.lab
    have hlq := hF.hq.lab
    have hpN : p.labels = (N : Int) := by omega
    have hqn : q.labels = (n : Int) := by omega
    have hn8 : n ≤ 8 := by omega
    have hmb : 2 ^ n ≤ 256 := by
      have : 2 ^ n ≤ 2 ^ 8 := Nat.pow_le_pow_right (by decide) hn8
      have e : (2 : Nat) ^ 8 = 256 := by decide
      omega
    rw [hf.len]
    refine cond_eq (fun he => by have : (f.length : Int) = p.labels := he; omega) (fun _ => ?_)
    have hSlen := hG.len
    have hkS : f.length < S.length := by rw [hG.len]; omega
    refine (hS.ext hE1).ixI hkS fun a1 _ hc1 => LD_int hc1 ?_
    obtain ⟨eS, hSlt⟩ := bytes_at hG.bytes hkS
    rw [eS]
    refine call (elLabels_ok (setAt S (f.length : Int)) w1) ?_
    rintro lb w2 ⟨hE2, hO2⟩
    have hl64 := labsOf_I64 (setAt S (f.length : Int))
    have hL2 := (hO2.rep hl64).any
    generalize hLd : labsOf (setAt S (f.length : Int)) = Lb at *
    have hmem : ∀ x : Nat, (x : Int) ∈ Lb ↔ (setAt S (f.length : Int)).testBit x = true := fun x => by
      rw [← hLd, mem_labsOf]
      constructor
      · rintro ⟨a, ha, _, hb⟩
        rw [show x = a by omega]; exact hb
      · intro hb
        exact ⟨x, rfl, by have := bit_lt hSlt hb; omega, hb⟩
    have hsort : Lb.Pairwise (· < ·) := by rw [← hLd]; exact labsOf_sorted _
    have hnat : ∀ x ∈ Lb, ∃ a : Nat, x = a := fun x hx => by
      rw [← hLd] at hx
      obtain ⟨a, ha, _⟩ := mem_labsOf.1 hx
      exact ⟨a, ha⟩
    have hE02 := hE1.trans hE2
    have hnone0 : ∀ x : Nat, (x : Int) ∉ Lb → bestM p q m (f ++ [(x : Int)]) = none := fun x hx => bestM_none fun g hg => by
      rw [List.append_assoc] at hg
      have h1 := hG.keep _ hg f.length (by simp)
      have h2 : (f ++ ([(x : Int)] ++ g)).getD f.length 0 = (x : Int) := by simp
      rw [h2, Int.toNat_natCast] at h1
      exact hx ((hmem x).2 h1)
    rw [hL2.len]
    refine ⟨IN Lb.length fun j w' => Ext w w' ∧ Ext w2 w' ∧ ∀ i (hi : i < Lb.length), i < j → bestM p q m (f ++ [Lb[i]]) = none, MN Lb.length, IN_zero ⟨hE02, Ext.refl _, fun i _ hi => absurd hi (by omega)⟩, ?_⟩
    rintro _ w3 ⟨j, rfl, hj, hE3, hE23, hI⟩
    intros
    refine cond_dec (fun hlt => ?_) (fun hge => ?_)
    · have hj' : j < Lb.length := by omega
      refine (hL2.ext hE23).ixI hj' fun a2 _ hc2 => LD_int hc2 ?_
      obtain ⟨b, hb⟩ := hnat _ (List.getElem_mem hj')
      rw [hb]
      have hbit : (setAt S (f.length : Int)).testBit b = true := (hmem b).1 (by rw [← hb]; exact List.getElem_mem hj')
      have hbn := bit_lt hSlt hbit
      have hbest : ∀ b' : Nat, b' < b → bestM p q m (f ++ [(b' : Int)]) = none := fun b' hb' => by
        by_cases hin : (b' : Int) ∈ Lb
        · obtain ⟨i, hi, hix⟩ := List.mem_iff_getElem.1 hin
          rw [← hix]
          refine hI i hi ?_
          rcases Nat.lt_or_ge i j with h | h
          · exact h
          · rcases Nat.eq_or_lt_of_le h with h | h
            · subst h; omega
            · have := List.pairwise_iff_getElem.1 hsort j i hj' hi h
              omega
        · exact hnone0 b' hin
      refine call (l1Own_ok (hS.ext hE3) (by omega)) ?_
      rintro so w4 ⟨hE4, hO4⟩
      refine ⟨by omega, ?_⟩
      refine IX_own hO4 hkS rfl fun a3 ha3 => ?_
      rw [shl_one (by omega)]
      refine ST_own hO4 hkS ha3 ((2 ^ b : Nat) : Int) rfl fun w5 hO5 hs5 => ?_
      have hE35 : Ext w3 w5 := hs5.ext0 hE4 fun k hk => (hO4.blk k hk).1
      have hE05 := hE3.trans hE35
      have hE25 := hE23.trans hE35
      have h2b : 2 ^ b < 2 ^ n := Nat.pow_lt_pow_right (by decide) hbn
      have hbS : Bytes n (S.set f.length ((2 ^ b : Nat) : Int)) := bytes_set hG.bytes h2b
      have hR5 := (hO5.rep (bytes_I64 hn8 hbS)).any
      have hBk : ∀ {w' : World}, Ext w2 w' → Box w' px T.t_s_reFinder [.int .i64 p.labels, .int .i64 p.degree, c.v, d.v, .int .i64 q.labels, .int .i64 q.degree, c'.v, d'.v, g1.v, g2.v] := fun h => (hB1.ext hE2).ext h
      refine LD_10 (hBk hE25) ?_
      refine call (narrow_ok (hF.ext hE05) hsp hR5 hN hn (by rw [List.length_set, hG.len]) hbS) ?_
      rintro r ok w6 ⟨hE6, S', hO6, hNar, hAll, hok⟩
      have hkeep : ∀ g, MapOk p q ((f ++ [(b : Int)]) ++ g) → Under ((f ++ [(b : Int)]) ++ g) S' := fun g hg => by
        refine hNar.keep _ hg fun a ha => ?_
        rw [setAt_set hkS]
        by_cases haf : a = f.length
        · subst haf
          rw [if_pos rfl]
          have h2 : (f ++ [(b : Int)] ++ g).getD f.length 0 = (b : Int) := by simp
          rw [h2, Int.toNat_natCast, Nat.testBit_two_pow]
          simp
        · rw [if_neg haf]
          have hg' := hg
          rw [List.append_assoc] at hg' ha ⊢
          exact hG.keep _ hg' a ha
      have hgoon : ∀ (w' : World), Ext w6 w' → bestM p q m (f ++ [(b : Int)]) = none → IN Lb.length (fun j w' => Ext w w' ∧ Ext w2 w' ∧ ∀ i (hi : i < Lb.length), i < j → bestM p q m (f ++ [Lb[i]]) = none) (IntKind.i64.wrap ((j : Int) + 1)) w' ∧ MN Lb.length (IntKind.i64.wrap ((j : Int) + 1)) w' < MN Lb.length (j : Int) w3 := fun w' hE' hno => by
        refine IN_next hL2.le hj' ⟨hE05.trans (hE6.trans hE'), hE25.trans (hE6.trans hE'), fun i hi hij => ?_⟩
        by_cases hii : i = j
        · subst hii; rw [hb]; exact hno
        · exact hI i hi (by omega)
      refine cond_b (fun ht => ?_) (fun hfa => ?_)
      · have hne := hok.1 ht
        have hG' : GrowOk p q n N (f ++ [(b : Int)]) S' := by
          refine ⟨hNar.len, hNar.bytes, hAll, hne, fun a ha x hx => ?_, fun x hx => ?_, hkeep⟩
          · have haN : a < N := by simp at ha; omega
            have h1 := hNar.sub a x haN hx
            rw [setAt_set hkS] at h1
            by_cases haf : a = f.length
            · subst haf
              rw [if_pos rfl, Nat.testBit_two_pow, decide_eq_true_iff] at h1
              have h2 : (f ++ [(b : Int)]).getD f.length 0 = (b : Int) := by simp
              rw [h2, h1]
            · rw [if_neg haf] at h1
              have hal : a < f.length := by simp at ha; omega
              have h2 : (f ++ [(b : Int)]).getD a 0 = f.getD a 0 := by
                rw [List.getD_eq_getElem?_getD, List.getD_eq_getElem?_getD, List.getElem?_append_left hal]
              rw [h2]
              exact hG.low a hal x h1
          · rcases List.mem_append.1 hx with h | h
            · exact hG.labs x h
            · rw [List.mem_singleton.1 h]; omega
        intro w7 hE7 _
        have hE67 := hE7
        have hE07 := hE05.trans (hE6.trans hE7)
        have hE27 := hE25.trans (hE6.trans hE7)
        refine ⟨fun _ => False, fun h => h, LD_10 (hBk hE27) ?_⟩
        have hbI : I64 (b : Int) := by unfold I64; omega
        have hfb64 : ∀ z ∈ f ++ [(b : Int)], I64 z := fun z hz => by
          rcases List.mem_append.1 hz with h | h
          · exact hf64 z h
          · rw [List.mem_singleton.1 h]; exact hbI
        have hS7 := ((hO6.rep (bytes_I64 hn8 hNar.bytes)).any).ext hE7
        have tail : ∀ (wc : World) (rr : Sl), Ext w7 wc → OwnL wc lo T.t_int rr (f ++ [(b : Int)]) →
            Calls Tryz.prog F.s_reFinder_grow #[.agg #[.int .i64 p.labels, .int .i64 p.degree, c.v, d.v, .int .i64 q.labels, .int .i64 q.degree, c'.v, d'.v, g1.v, g2.v], rr.v, r.v] wc (Ret [.at .sl, .at .bool] fun (x0 : Sl) (x1 : Bool) wd => Chg w7 wd (fun _ => False) ∧ (Chg w7 wd (fun _ => False) ∧ (Chg w7 wd (fun _ => False) ∧ (Chg w7 wd (fun _ => False) ∧ (cond x1 ((fun (r : Sl) (ok : Bool) w' => Ext w w' ∧ match bestM p q (m + 1) f with | some h => ok = true ∧ OwnL w' lo T.t_int r h | none => ok = false) x0 true wd) (IN Lb.length (fun j w' => Ext w w' ∧ Ext w2 w' ∧ ∀ i (hi : i < Lb.length), i < j → bestM p q m (f ++ [Lb[i]]) = none) (IntKind.i64.wrap ((j : Int) + 1)) wd ∧ MN Lb.length (IntKind.i64.wrap ((j : Int) + 1)) wd < MN Lb.length (j : Int) w3)))))) := fun wc rr hEc hRc => by
          refine call (ih (by simp; omega) (hF.ext (hE07.trans hEc)) (by have := (hE07.trans hEc).size_le; omega) hRc hfb64 (hS7.ext hEc) hG') ?_
          rintro x0 x1 wd ⟨hEd, hmd⟩
          have hE7d := hEc.trans hEd
          have hch : Chg w7 wd (fun _ => False) := .of_ext hE7d
          refine ⟨hch, hch, hch, hch, ?_⟩
          cases hbm : bestM p q m (f ++ [(b : Int)]) with
          | some h =>
            rw [hbm] at hmd
            obtain ⟨rfl, hRd⟩ := hmd
            refine cond_t rfl ⟨hE07.trans hE7d, ?_⟩
            rw [bestM_hit (by omega) hbest hbm]
            exact ⟨rfl, hRd⟩
          | none =>
            rw [hbm] at hmd
            simp only at hmd
            subst hmd
            exact cond_f rfl (hgoon wd (hE7.trans hE7d) hbm)
        refine ⟨?_, ?_⟩
        · refine call (l1Own_ok (hf.ext hE07) (by omega)) ?_
          rintro r9 w9 ⟨hE9, hO9⟩
          refine ⟨.of_ext hE9, ?_⟩
          refine RUN_lit1 (α := Int) slt_int (b : Int) rfl (by decide) fun y w10 hE10 hO10 => ⟨.of_ext (hE9.trans hE10), ?_⟩
          refine RUN_append (α := Int) slt_int (hO9.ext hE10) (by have := hE9.size_le; have := hE10.size_le; omega) (hO10.rep (by intro z hz; simp at hz; subst hz; exact hbI)).any (by simp; omega) (by simp [maxLen]; omega) fun rr w11 hO11 hs11 => ?_
          have hE11 : Ext w7 w11 := hs11.ext0 (hE9.trans hE10) fun k hk => ((hO9.ext hE10).blk k hk).1
          exact ⟨.of_ext hE11, tail w11 rr hE11 (hO11.low (by have := hE07.size_le; omega))⟩
        · refine RUN_lit1 (α := Int) slt_int (b : Int) rfl (by decide) fun y w10 hE10 hO10 => ⟨.of_ext hE10, ?_⟩
          refine call (l1Own_ok ((hf.ext hE07).ext hE10) (by omega)) ?_
          rintro r9 w9 ⟨hE9, hO9⟩
          refine ⟨.of_ext (hE10.trans hE9), ?_⟩
          have hz10 := hE10.size_le
          refine RUN_append (α := Int) slt_int (hO9.low hz10) (by have := hE9.size_le; omega) ((hO10.ext hE9).rep (by intro z hz; simp at hz; subst hz; exact hbI)).any (by simp; omega) (by simp [maxLen]; omega) fun rr w11 hO11 hs11 => ?_
          have hE11 : Ext w7 w11 := hs11.ext0 (hE10.trans hE9) fun k hk => by have := (hO9.blk k hk).1; omega
          exact ⟨.of_ext hE11, tail w11 rr hE11 (hO11.low (by have := hE07.size_le; omega))⟩
      · have hex : ∃ a : Nat, a < N ∧ setAt S' (a : Int) = 0 := Classical.byContradiction fun hno => by
          have : ok = true := hok.2 fun a ha h0 => hno ⟨a, ha, h0⟩
          rw [hfa] at this
          cases this
        obtain ⟨a, ha, h0⟩ := hex
        exact hgoon w6 (Ext.refl _) (bestM_none (under_none hpN ha h0 hkeep))
    · have : j = Lb.length := by omega
      subst this
      refine ⟨hE3, ?_⟩
      have : bestM p q (m + 1) f = none := bestM_no fun x hx => by
        by_cases hin : (x : Int) ∈ Lb
        · obtain ⟨i, hi, hix⟩ := List.mem_iff_getElem.1 hin
          rw [← hix]
          exact hI i hi hi
        · exact hnone0 x hin
      rw [this]

/-! ### Both sides -/

theorem LabelMapBetween_ok {w : World} {c d c' d' : Sl} {p q : Prob} (hP : RProb w c d p) (hQ : RProb w c' d' q) (hp : PGood p) (hq : PGood q) (hd : p.degree = q.degree) (hsq : SmallP q) :
    Calls Tryz.prog F.i_LabelMapBetween #[.agg #[.int .i64 p.labels, .int .i64 p.degree, c.v, d.v], .agg #[.int .i64 q.labels, .int .i64 q.degree, c'.v, d'.v]] w (Ret [.at .sl, .at .bool] fun (r : Sl) (ok : Bool) w' => Ext w w' ∧ match mapPQ p q with | some h => ok = true ∧ OwnL w' w.heap.size T.t_int r h | none => ok = false) := by
  refine C_i_LabelMapBetween ?_
  unfold V_i_LabelMapBetween
  refine NEW_intro fun pp w1 hp1 hs1 hE1 hb1 => NEW_intro fun pq w2 hp2 hs2 hE2 hb2 => ?_
  have hE := hE1.trans hE2
  replace hP := hP.ext hE
  replace hQ := hQ.ext hE
  replace hb1 := hb1.ext hE2
  refine LD_iiss hb1 (LD_iiss hb2 ?_)
  refine call (areProblems_ok hP hQ) ?_
  rintro x w3 ⟨hx, hE3⟩
  replace hE := hE.ext hE3
  replace hP := hP.ext hE3
  replace hQ := hQ.ext hE3
  replace hb1 := hb1.ext hE3
  replace hb2 := hb2.ext hE3
  refine cond_not (fun hf => by rw [hx.2 ⟨hp, hq, hd⟩] at hf; cases hf) (fun _ => LD_iiss hb1 (LD_iiss hb2 ?_))
  refine NEW_intro fun x0 w4 hx0 hs4 hE4 hb4 => ?_
  have hz3 := hE.size_le
  have hO4 : OwnL w4 w4.heap.size T.t_int (⟨none, 0, 0⟩ : Sl) ([] : List Int) := OwnL.nil _ _ _
  have hlp := hp.lab
  refine call (firstLabelMap_ok (w0 := w3) (base := w4.heap.size) (p := p) (q := q) hp hq hsq hP hQ (by omega) (by omega) p.labels.toNat (w := w4) (s := ⟨none, 0, 0⟩) (f := []) (by simp; omega) (PreOk.nil hp) hE4 (Nat.le_refl _) hb4 hO4) ?_
  rintro b w5 ⟨hE5, hz5, s5, f5, hB5, hO5, hm⟩
  have hz4 := hE4.size_le
  unfold mapPQ
  cases hbm : bestM p q p.labels.toNat [] with
  | some h =>
    rw [hbm] at hm
    obtain ⟨rfl, rfl⟩ := hm
    refine cond_not (fun hf => by cases hf) (fun _ => LD_sl (hB5.cell (i := 8) rfl) ⟨hE.trans hE5, rfl, hO5.low (by omega)⟩)
  | none =>
    rw [hbm] at hm
    obtain ⟨rfl, _⟩ := hm
    exact cond_not (fun _ => ⟨hE.trans hE5, rfl⟩) (fun ht => by cases ht)

set_option maxHeartbeats 1600000 in
theorem sLabelMapBetween_ok {w : World} {c d c' d' : Sl} {p q : Prob} (hP : RProb w c d p) (hQ : RProb w c' d' q) (hp : PGood p) (hq : PGood q) (hd : p.degree = q.degree) (hsp : SmallP p) :
    Calls Tryz.prog F.s_LabelMapBetween #[.agg #[.int .i64 p.labels, .int .i64 p.degree, c.v, d.v], .agg #[.int .i64 q.labels, .int .i64 q.degree, c'.v, d'.v]] w (Ret [.at .sl, .at .bool] fun (r : Sl) (ok : Bool) w' => Ext w w' ∧ match mapPQ p q with | some h => ok = true ∧ OwnL w' w.heap.size T.t_int r h | none => ok = false) := by
  refine C_s_LabelMapBetween ?_
  unfold V_s_LabelMapBetween
  refine NEW_intro fun pp w1 hp1 hs1 hE1 hb1 => NEW_intro fun pq w2 hp2 hs2 hE2 hb2 => ?_
  have hE := hE1.trans hE2
  replace hP := hP.ext hE
  replace hQ := hQ.ext hE
  replace hb1 := hb1.ext hE2
  refine LD_iiss hb1 (LD_iiss hb2 ?_)
  refine call (reTwo_ok hP hQ) ?_
  rintro x w3 ⟨hx, hE3⟩
  replace hE := hE.ext hE3
  replace hP := hP.ext hE3
  replace hQ := hQ.ext hE3
  replace hb1 := hb1.ext hE3
  replace hb2 := hb2.ext hE3
  refine cond_not (fun hf => by rw [hx.2 ⟨hp, hq, hd⟩] at hf; cases hf) (fun _ => ?_)
  intro w4 hE4 _
  replace hE := hE.ext hE4
  replace hP := hP.ext hE4
  replace hQ := hQ.ext hE4
  replace hb1 := hb1.ext hE4
  replace hb2 := hb2.ext hE4
  have hlp := hp.lab
  have hlq := hq.lab
  have hdq := hq.deg
  have eq1 : q.labels = ((q.labels.toNat : Nat) : Int) := by omega
  have eq2 : q.degree = ((q.degree.toNat : Nat) : Int) := by omega
  refine ⟨fun _ => False, fun h => h, LD_iiss hb1 ⟨fun h => h, LD_iiss hb2 ⟨fun h => h, LD_bs2 hb2 ⟨fun h => h, LD_bi0 hb2 ⟨fun h => h, LD_bi1 hb2 ⟨fun h => h, LD_bs3 hb2 ⟨fun h => h, LD_bi0 hb2 ?_⟩⟩⟩⟩⟩⟩⟩
  have hn : 1 ≤ q.labels.toNat ∧ q.labels.toNat ≤ 8 := by omega
  have tab1 : ∀ {w' : World}, Ext w4 w' → Calls Tryz.prog F.s_reTable #[c'.v, .int .i64 q.labels, .int .i64 q.degree] w' (Ret [.at .sl] fun (r : Sl) w'' => Ext w' w'' ∧ TabO w'' r q.labels.toNat q.degree.toNat q.nodes) := fun h => by
    have := reTable_ok (hQ.nodes.ext h) (n := q.labels.toNat) (k := q.degree.toNat) hn (by omega)
    rw [← eq1, ← eq2] at this
    exact this
  have tab2 : ∀ {w' : World}, Ext w4 w' → Calls Tryz.prog F.s_reTable #[d'.v, .int .i64 q.labels, .int .i64 2] w' (Ret [.at .sl] fun (r : Sl) w'' => Ext w' w'' ∧ TabO w'' r q.labels.toNat 2 q.edges) := fun h => by
    have := reTable_ok (hQ.edges.ext h) (n := q.labels.toNat) (k := 2) hn (by omega)
    rw [← eq1] at this
    exact this
  have k2 : ∀ (px : Addr) (g1 g2 : Sl) (w8 : World), Ext w4 w8 → TabR w8 g1 q.labels.toNat q.degree.toNat q.nodes → TabR w8 g2 q.labels.toNat 2 q.edges → FinB w8 px p q c d c' d' g1 g2 →
      V_s_LabelMapBetween_k2 (fun (r : Sl) (ok : Bool) w' => Ext w w' ∧ match mapPQ p q with | some h => ok = true ∧ OwnL w' w.heap.size T.t_int r h | none => ok = false) pp pq px w8 := fun px g1 g2 w8 hE8 hT1 hT2 hB8 => by
    unfold V_s_LabelMapBetween_k2
    have hE08 := hE.trans hE8
    have h2n : 2 ^ q.labels.toNat ≤ 256 := by
      have : 2 ^ q.labels.toNat ≤ 2 ^ 8 := Nat.pow_le_pow_right (by decide) hn.2
      have e : (2 : Nat) ^ 8 = 256 := by decide
      omega
    have h2p := Nat.two_pow_pos q.labels.toNat
    have hmI : I64 ((2 ^ q.labels.toNat - 1 : Nat) : Int) := by unfold I64; omega
    refine ⟨fun (sets : Sl) (a : Int) w' => ∃ i : Nat, a = i ∧ i ≤ p.labels.toNat ∧ Ext w8 w' ∧ OwnL w' w8.heap.size T.t_int sets (List.replicate i ((2 ^ q.labels.toNat - 1 : Nat) : Int)), fun _ a _ => p.labels.toNat - a.toNat, ⟨0, rfl, Nat.zero_le _, Ext.refl _, OwnL.nil _ _ _⟩, ?_⟩
    rintro sets _ w17 ⟨i, rfl, hi, hE17, hO17⟩
    intros
    refine LD_bi0 ((hb1.ext hE8).ext hE17) ?_
    refine cond_dec (fun hlt => LD_bi0 ((hb2.ext hE8).ext hE17) ⟨by omega, ?_⟩) (fun hge => ?_)
    · have e1 : IntKind.i64.wrap ((shlI .i64 1 q.labels) - 1) = ((2 ^ q.labels.toNat - 1 : Nat) : Int) := by
        rw [eq1, shl_one (by omega), Int.toNat_natCast, wrap_of (by omega) (by omega)]
        omega
      rw [e1]
      refine RUN_lit1 (α := Int) slt_int _ rfl (by decide) fun y w18 hE18 hO18 => ?_
      refine RUN_append (α := Int) slt_int (hO17.ext hE18) (by have := hE17.size_le; have := hE18.size_le; omega) (hO18.rep (by intro z hz; simp only [List.mem_singleton] at hz; subst hz; exact hmI)).any (by simp; omega) (by simp [maxLen]; omega) fun r w19 hO19 hs19 => ?_
      rw [wrap_of (by omega) (by omega)]
      refine ⟨⟨i + 1, by omega, by omega, hs19.ext0 (hE17.trans hE18) fun k hk => ((hO17.ext hE18).blk k hk).1, ?_⟩, by simp only []; omega⟩
      rw [List.replicate_succ']
      exact hO19
    · have : i = p.labels.toNat := by omega
      subst this
      have hE48 := hE8.trans hE17
      have hF : Fin0 w17 p q c d g1 g2 := ⟨hp, hq, hd, hP.ext hE48, hT1.ext hE17, hT2.ext hE17⟩
      refine LD_10 (hB8.ext hE17) ?_
      have hrep : ∀ a : Nat, a < p.labels.toNat → setAt (List.replicate p.labels.toNat ((2 ^ q.labels.toNat - 1 : Nat) : Int)) (a : Int) = 2 ^ q.labels.toNat - 1 := fun a ha => by
        unfold setAt
        rw [Int.toNat_natCast, get_at (by simpa using ha), List.getElem_replicate, Int.toNat_natCast]
      have hS64 : ∀ z ∈ List.replicate p.labels.toNat ((2 ^ q.labels.toNat - 1 : Nat) : Int), I64 z := fun z hz => by rw [(List.mem_replicate.1 hz).2]; exact hmI
      have hSb : Bytes q.labels.toNat (List.replicate p.labels.toNat ((2 ^ q.labels.toNat - 1 : Nat) : Int)) := fun z hz => ⟨_, (List.mem_replicate.1 hz).2, by omega⟩
      refine call (narrow_ok (N := p.labels.toNat) (n := q.labels.toNat) hF hsp (hO17.rep hS64).any rfl rfl (List.length_replicate) hSb) ?_
      rintro r ok w20 ⟨hE20, S', hO20, hNar, hAll, hok⟩
      have hkeep : ∀ g, MapOk p q ([] ++ g) → Under ([] ++ g) S' := fun g hg => by
        rw [List.nil_append] at hg ⊢
        refine hNar.keep g hg fun a ha => ?_
        have hgl := hg.len
        rw [hrep a (by omega), Nat.testBit_two_pow_sub_one]
        have h1 := hg.labs _ (List.getElem_mem ha)
        rw [get_at ha, decide_eq_true_iff]
        omega
      have hE20' := (hE08.trans hE17).trans hE20
      refine cond_not (fun hf => ⟨hE20', ?_⟩) (fun ht => LD_10 ((hB8.ext hE17).ext hE20) ?_)
      · have hex : ∃ a : Nat, a < p.labels.toNat ∧ setAt S' (a : Int) = 0 := Classical.byContradiction fun hno => by
          have : ok = true := hok.2 fun a ha h0 => hno ⟨a, ha, h0⟩
          rw [hf] at this
          cases this
        obtain ⟨a, ha, h0⟩ := hex
        have : mapPQ p q = none := bestM_none (under_none (N := p.labels.toNat) (by omega) ha h0 hkeep)
        rw [this]
      · have hne := hok.1 ht
        have hG : GrowOk p q q.labels.toNat p.labels.toNat [] S' := ⟨hNar.len, hNar.bytes, hAll, hne, fun a ha => by simp at ha, fun x hx => by simp at hx, hkeep⟩
        have hnR : OwnL w20 w.heap.size T.t_int (⟨none, 0, 0⟩ : Sl) ([] : List Int) := OwnL.nil _ _ _
        have hgr := grow_ok (p := p) (q := q) (c := c) (d := d) (c' := c') (d' := d') (g1 := g1) (g2 := g2) (N := p.labels.toNat) (n := q.labels.toNat) w.heap.size hsp rfl rfl p.labels.toNat (w := w20) (fs := ⟨none, 0, 0⟩) (ss := r) (f := []) (S := S') (Nat.zero_add _) (hF.ext hE20) hE20'.size_le hnR (by simp) (hO20.rep (bytes_I64 hn.2 hNar.bytes)).any hG
        refine call hgr ?_
        rintro r2 ok2 w21 ⟨hE21, hm⟩
        exact ⟨hE20'.trans hE21, hm⟩
  have fin : ∀ {g1 g2 : Sl} {w7 : World} {px : Addr}, w4.heap.size ≤ px.block → Ext w4 w7 → Box w7 px T.t_s_reFinder [.int .i64 0, .int .i64 0, .slice none 0 0, .slice none 0 0, .int .i64 0, .int .i64 0, .slice none 0 0, .slice none 0 0, .slice none 0 0, .slice none 0 0] → TabO w7 g1 q.labels.toNat q.degree.toNat q.nodes → TabO w7 g2 q.labels.toNat 2 q.edges →
      GX.ST px 0 [.int .i64 p.labels, .int .i64 p.degree, c.v, d.v, .int .i64 q.labels, .int .i64 q.degree, c'.v, d'.v, g1.v, g2.v] w7 fun w8 => Chg w4 w8 (fun _ => False) ∧ V_s_LabelMapBetween_k2 (fun (r : Sl) (ok : Bool) w' => Ext w w' ∧ match mapPQ p q with | some h => ok = true ∧ OwnL w' w.heap.size T.t_int r h | none => ok = false) pp pq px w8 := fun {g1 g2 w7 px} hlo hE7 hb7 hT1 hT2 => by
    refine ST_all hb7 (one10 _ _ _ _ _ _ _ _ _ _) rfl fun w8 hs8 hz8 hb8 => ?_
    have hE8 : Ext w4 w8 := hs8.ext0 hE7 fun k hk => by cases hk; omega
    exact ⟨.of_ext hE8, k2 px g1 g2 w8 hE8 (hT1.stepB hb7 (by decide) hs8).tab (hT2.stepB hb7 (by decide) hs8).tab hb8⟩
  refine ⟨?_, ?_⟩
  · refine call (tab1 (Ext.refl _)) ?_
    rintro g1 w5 ⟨hE5, hT1⟩
    refine ⟨.of_ext hE5, ?_, ?_⟩
    · refine call (tab2 hE5) ?_
      rintro g2 w6 ⟨hE6, hT2⟩
      have hE46 := hE5.trans hE6
      refine ⟨.of_ext hE46, ?_⟩
      refine NEW_intro fun px w7 hpx hsx hE7 hb7 => ?_
      have hE47 := hE46.trans hE7
      exact ⟨.of_ext hE47, fin (by have := hE46.size_le; omega) hE47 hb7 ((hT1.ext hE6).ext hE7) (hT2.ext hE7)⟩
    · refine NEW_intro fun px w9 hpx hsx hE9 hb9 => ?_
      have hE49 := hE5.trans hE9
      refine ⟨.of_ext hE49, ?_⟩
      refine call (tab2 hE49) ?_
      rintro g2 w10 ⟨hE10, hT2⟩
      have hE410 := hE49.trans hE10
      exact ⟨.of_ext hE410, .of_ext hE410, fin (by have := hE5.size_le; omega) hE410 (hb9.ext hE10) ((hT1.ext hE9).ext hE10) hT2⟩
  · refine NEW_intro fun px w12 hpx hsx hE12 hb12 => ?_
    refine ⟨.of_ext hE12, ?_⟩
    refine call (tab1 hE12) ?_
    rintro g1 w13 ⟨hE13, hT1⟩
    have hE413 := hE12.trans hE13
    refine ⟨.of_ext hE413, ?_⟩
    refine call (tab2 hE413) ?_
    rintro g2 w14 ⟨hE14, hT2⟩
    have hE414 := hE413.trans hE14
    exact ⟨.of_ext hE414, .of_ext hE414, fin (by omega) hE414 ((hb12.ext hE13).ext hE14) (hT1.ext hE14) hT2⟩

end Go.Proofs.YtndebacmnpghkaaGreat
end

section
/- Pairs of labels that refuse zero rounds, in plain words: no program in sight. -/
namespace Go.Proofs.YtndebacmnpghkaaGreat
open Go.GX Go.RowKit
set_option maxRecDepth 100000

/-- The pair that refuses a configuration. -/
def badPr (p : Prob) (c : List Int) : List Int := match badIx p c with | some (i, j) => [c.getD i 0, c.getD j 0] | none => []

/-- The pairs of a configuration that begin with a place, and go on with a place behind it. -/
theorem badAt_tail {p : Prob} {c : List Int} {k : Nat} (hk : k < c.length) (h1 : ∀ u, u < k → ∀ v, v < c.length → edgeB p (c.getD u 0) (c.getD v 0) = true) :
    match badAt p [c[k]] (c.drop k) with | some q => ∃ j, k ≤ j ∧ badIx p c = some (k, j) ∧ q = (c.getD k 0, c.getD j 0) | none => ∀ v, v < c.length → edgeB p (c.getD k 0) (c.getD v 0) = true := by
  have hlow : ∀ v, v < k → edgeB p (c.getD k 0) (c.getD v 0) = true := fun v hv => by rw [edgeB_comm]; exact h1 v hv k hk
  cases hq : badAt p [c[k]] (c.drop k) with
  | none =>
    simp only []
    intro v hv
    by_cases hvk : v < k
    · exact hlow v hvk
    · have h2 := (badAt_none (p := p)).1 hq c[k] (by simp) c[v] (List.mem_drop_iff_getElem.2 ⟨v - k, by omega, by congr 1; omega⟩)
      rw [get_at hk, get_at hv]
      exact h2
  | some q =>
    simp only []
    rw [badAt] at hq
    cases hf : (c.drop k).find? fun b => !edgeB p c[k] b with
    | none => rw [hf] at hq; simp [badAt] at hq
    | some b =>
      rw [hf] at hq
      simp only [Option.some.injEq] at hq
      obtain ⟨hb, A, B, he, hall⟩ := List.find?_eq_some_iff_append.1 hf
      have hl : (c.drop k).length = A.length + (B.length + 1) := by rw [he]; simp
      rw [List.length_drop] at hl
      have hj : k + A.length < c.length := by omega
      have hcj : c[k + A.length] = b := by
        have : (c.drop k)[A.length]'(by rw [List.length_drop]; omega) = b := by simp [he]
        rw [List.getElem_drop] at this
        exact this
      refine ⟨k + A.length, by omega, badIx_hit hk hj h1 (fun v hv => ?_) ?_, ?_⟩
      · by_cases hvk : v < k
        · exact hlow v hvk
        · have hva : v - k < A.length := by omega
          have h5 : c[v]'(by omega) = A[v - k] := by
            have : (c.drop k)[v - k]'(by rw [List.length_drop]; omega) = A[v - k] := by
              simp [he, List.getElem_append_left, hva]
            rw [List.getElem_drop] at this
            rw [← this]
            congr 1; omega
          have h6 := hall _ (List.getElem_mem hva)
          rw [get_at hk, get_at (show v < c.length by omega), h5]
          simpa using h6
      · rw [get_at hk, get_at hj, hcj]; simpa using hb
      · rw [get_at hk, get_at hj, hcj]; exact hq.symm

end Go.Proofs.YtndebacmnpghkaaGreat
end

section
/- Labels pulled through the node step, the reference. -/
namespace Go.Proofs.YtndebacmnpghkaaGreat
open Go.GX Go.RowKit
set_option maxRecDepth 100000

end Go.Proofs.YtndebacmnpghkaaGreat
end

section
/- Labels pulled through the node step are a solution. -/
namespace Go.Proofs.YtndebacmnpghkaaGreat
open Go.GX Go.RowKit
set_option maxRecDepth 100000

/-! ### One edge at each end -/

/-! ### A whole round -/

structure PrAsked (p : Prob) (n : Net) (L : List (List Int)) : Prop where
  good : edGood p
  node : PnAsked (edgeP p) n L

end Go.Proofs.YtndebacmnpghkaaGreat
end

section
/- Problems that are eliminated one after the other; lists of problems that grow: what is known of them. -/
namespace Go.Proofs.YtndebacmnpghkaaGreat
open Go.GX Go.RowKit
set_option maxRecDepth 100000

/-! ### In plain words -/

def iterP (p : Prob) : Nat → Prob
  | 0 => p
  | k + 1 => roundP (iterP p k)

/-- The problem may be eliminated some times. -/
def itOk (p : Prob) (k : Nat) : Prop := PGood p ∧ ∀ i, i < k → rdFew (iterP p i)

theorem itOk.good {p : Prob} {k : Nat} (h : itOk p k) : ∀ i, i ≤ k → PGood (iterP p i)
  | 0, _ => h.1
  | i + 1, hi => made_round (h.good i (by omega)) (h.2 i (by omega))
theorem itOk.small {p : Prob} (hs : SmallP p) {k : Nat} (h : itOk p k) : ∀ i, i ≤ k → SmallP (iterP p i)
  | 0, _ => hs
  | i + 1, hi => small_round (h.good i (by omega)) (h.2 i (by omega))
theorem itOk.snoc {p : Prob} {k : Nat} (h : itOk p k) (hf : rdFew (iterP p k)) : itOk p (k + 1) := ⟨h.1, fun i hi => by
  by_cases he : i = k
  · subst he; exact hf
  · exact h.2 i (by omega)⟩

/-- What is asked. -/
structure TmAsked (p : Prob) (k : Int) : Prop where
  k0 : 0 ≤ k
  k5 : k ≤ 5
  ok : itOk p k.toNat

/-! ### Lists of problems that grow -/

structure Recs (base : Nat) (w : World) (s : Sl) (l : List Prob) : Prop where
  ex : ∃ rs : List PRec, OwnL w base T.t_i_Problem s rs ∧ rs.length = l.length ∧ ∀ j (h1 : j < rs.length) (h2 : j < l.length), RecOf (fun b => s.v.ownBlock ≠ some b) w rs[j] l[j]

theorem Recs.rep {base : Nat} {w : World} {s : Sl} {l : List Prob} (h : Recs base w s l) : R w s l := by
  obtain ⟨rs, hO, hl, hr⟩ := h.ex
  exact recs_rep (D := fun _ => True) hO hl (fun j h1 h2 => have hR := hr j h1 h2; ⟨hR.x, hR.y, hR.lab, hR.deg, hR.nodes.any, hR.edges.any⟩) (fun b hb => hb) fun b _ => trivial
theorem Recs.ext {base : Nat} {w w' : World} {s : Sl} {l : List Prob} (h : Recs base w s l) (hE : Ext w w') : Recs base w' s l := by
  obtain ⟨rs, hO, hl, hr⟩ := h.ex
  exact ⟨rs, hO.ext hE, hl, fun j h1 h2 => (hr j h1 h2).ext hE⟩
theorem Recs.nil (base : Nat) (w : World) : Recs base w ⟨none, 0, 0⟩ [] := ⟨[], OwnL.nil _ _ _, rfl, fun j h1 => by simp at h1⟩
theorem Recs.blk {base : Nat} {w : World} {s : Sl} {l : List Prob} (h : Recs base w s l) {k : Nat} (hk : s.v.ownBlock = some k) : base ≤ k ∧ k < w.heap.size := by
  obtain ⟨rs, hO, _⟩ := h.ex
  exact hO.blk k hk
/-- A list of one problem, its lists made before the array. -/
theorem Recs.one {base b1 : Nat} {w0 w : World} {s z u : Sl} {q : Prob} (hE : Ext w0 w) (hO : OwnL w b1 T.t_i_Problem s [(⟨q.labels, q.degree, z, u⟩ : PRec)]) (hb1 : w0.heap.size ≤ b1) (hb : base ≤ b1) (hR : RProb w0 z u q) : Recs base w s [q] :=
  ⟨_, hO.low hb, rfl, fun j h1 h2 => by
    have hj : j = 0 := by simp at h2; omega
    subst hj
    have hk : ∀ b, True → b < w0.heap.size → s.v.ownBlock ≠ some b := fun b _ hlt he => by have := (hO.blk b he).1; omega
    exact ⟨rfl, rfl, hR.labels, hR.degree, (hR.nodes.weak hk RepP.pos).ext hE, (hR.edges.weak hk RepP.pos).ext hE⟩⟩

end Go.Proofs.YtndebacmnpghkaaGreat
end

section
/- Problems that are eliminated one after the other: both sides. -/
namespace Go.Proofs.YtndebacmnpghkaaGreat
open Go.GX Go.RowKit
set_option maxRecDepth 100000

theorem copyLists_big {w : World} {s : Sl} {L : List (List Int)} (h : R w s L) (hs : SmallM L) :
    Calls Tryz.prog F.i_copyLists #[s.v] w (Ret [.at .sl] fun (r : Sl) w' => Ext w w' ∧ OutM w.heap.size w' r L) := by
  refine C_i_copyLists ?_
  unfold V_i_copyLists
  obtain ⟨hb, hbb⟩ := hs
  rw [h.len]
  refine RUN_make (α := Sl) slt_rows (d := ⟨none, 0, 0⟩) rfl (by omega) (by unfold maxLen; omega) fun s w1 hE1 hO1 => ?_
  have hz1 := hE1.size_le
  refine ⟨IN L.length fun i w' => Ext w w' ∧ w1.heap.size ≤ w'.heap.size ∧ ∃ ss : List Sl, RowsD w' w.heap.size T.t_int T.t_sl_int s (L.take i ++ List.replicate (L.length - i) []) ss, MN L.length,
    IN_zero ⟨hE1, Nat.le_refl _, List.replicate L.length ⟨none, 0, 0⟩, ⟨hO1, by simp, fun k r m hr hm => ?_, fun k j r q hr hq _ b hb => ?_⟩⟩, ?_⟩
  · obtain ⟨_, rfl⟩ := List.getElem?_eq_some_iff.1 hr
    obtain ⟨_, rfl⟩ := List.getElem?_eq_some_iff.1 hm
    simp only [List.getElem_replicate, List.take_zero, List.nil_append]
    exact OwnL.nil _ _ _
  · obtain ⟨_, rfl⟩ := List.getElem?_eq_some_iff.1 hr
    simp only [List.getElem_replicate] at hb
    cases hb
  · rintro x w2 ⟨i, rfl, hi, hE, hz2, ss, hM⟩
    intros
    have hlm : (L.take i ++ List.replicate (L.length - i) []).length = L.length := by simp; omega
    refine cond_dec (fun hlt => ?_) (fun hge => ?_)
    · have hlt' : i < L.length := by omega
      refine (h.ext hE).ixL hlt' fun p s' hs' hc => LD_sl hc ?_
      have hz := hE.size_le
      refine call (clone_ok hs'.any (hbb _ (List.getElem_mem _))) ?_
      rintro s3 w3 ⟨hE3, hO3⟩
      have hM3 := hM.ext hE3
      refine hM3.ixP (i := i) (by omega) fun p hp => ?_
      have hiss : i < ss.length := by rw [hM.len]; omega
      refine hM.put (w1 := w3) (by decide) (i := i) (by omega) (r := ss[i]) (by simp [hiss]) (hO3.low hz) (Step.of_ext hE3 _) (.inr fun k hk => (hO3.blk k hk).1) hp fun w4 hM4 hs4 => ?_
      have hz4 := hs4.size
      have hz3 := hE3.size_le
      refine IN_next (by omega) hlt' ⟨hs4.ext0 (hE.trans hE3) (fun k hk => (hM.own.blk k hk).1), by omega, ss.set i s3, ?_⟩
      have e := set_fill (L := L) hlt'
      rw [← e]
      exact hM4
    · have : i = L.length := by omega
      subst this
      rw [List.take_length, Nat.sub_self, List.replicate_zero, List.append_nil] at hM
      exact ⟨hE, ⟨ss, hM⟩, flat_okII h, hb, hbb⟩

theorem copyProblem_ok {w : World} {c d : Sl} {p : Prob} (h : RProb w c d p) (hs : SmallP p) :
    Calls Tryz.prog F.i_copyProblem #[.agg #[.int .i64 p.labels, .int .i64 p.degree, c.v, d.v]] w (Ret [.agg [.int .i64, .int .i64, .sl, .sl]] fun (x y : Int) (z u : Sl) w' => x = p.labels ∧ y = p.degree ∧ Ext w w' ∧ ∃ mid hi, FreshP w.heap.size mid hi w' z u p) := by
  refine C_i_copyProblem ?_
  unfold V_i_copyProblem
  refine NEW_intro fun pp w1 hp1 hs1 hE1 hb1 => NEW_intro fun px w2 hp2 hs2 hE2 hb2 => ?_
  intro w3 hE3 _
  have hE := (hE1.trans hE2).trans hE3
  have hE23 := hE2.trans hE3
  have hz1 := hE1.size_le
  have hz23 := hE23.size_le
  replace h := h.ext hE
  replace hb1 := hb1.ext hE23
  replace hb2 := hb2.ext hE3
  refine ⟨fun _ => False, not_false, LD_bs2 hb1 ⟨not_false, LD_bs3 hb1 ?_⟩⟩
  refine call (copyLists_big h.nodes hs.1) ?_
  rintro z w4 ⟨hE4, hZ⟩
  refine ⟨Chg.of_ext hE4, ?_⟩
  refine call (copyLists_big (h.edges.ext hE4) hs.2) ?_
  rintro u w5 ⟨hE5, hU⟩
  refine ⟨Chg.of_ext (hE4.trans hE5), ?_⟩
  have hb5 := (hb1.ext hE4).ext hE5
  have hx5 := (hb2.ext hE4).ext hE5
  have hlt1 := hb1.lt
  have hlt2 := hb2.lt
  have hz3 := hE.size_le
  have hz4 := hE4.size_le
  have hz5 := hE5.size_le
  have hne : px.block ≠ pp.block := by omega
  refine ST_box1 hb5 (by simp) rfl fun w6 hz6 hk6 hX6 hb6 => ?_
  refine ST_box1 hb6 (by simp) rfl fun w7 hz7 hk7 hX7 hb7 => LD_iiss hb7 ?_
  have hx7 := (hx5.of_block (hk6 _ hne)).of_block (hk7 _ hne)
  have hE7 := hX7 _ (hX6 _ ((hE.trans hE4).trans hE5) (by omega)) (by omega)
  refine ST_all hx7 (one4p _ _ _ _) rfl fun w8 hs8 hz8 hb8 => LD_iiss hb8 ?_
  have hk8 : ∀ b, w3.heap.size ≤ b → b < w5.heap.size → w8.heap[b]? = w5.heap[b]? := fun b h1 h2 => by
    rw [hs8.block b (by omega) (by intro he; cases he; omega), hk7 b (by omega), hk6 b (by omega)]
  obtain ⟨ss, hM⟩ := hZ.ex
  refine ⟨rfl, rfl, hs8.ext0 hE7 fun k hk => by cases hk; omega, w4.heap.size, w5.heap.size, ?_, ?_, by omega, hE5.size_le, by omega⟩
  · have h0 : InB w3.heap.size w4.heap.size (fun _ => 0) 0 w4 z p.nodes := InB.of hZ fun _ _ _ => rfl
    exact ((h0.ext hE5).keep fun b _ h1 h2 h3 => hk8 b h1 h3).low hz3
  · have h0 : InB w4.heap.size w5.heap.size (fun _ => 0) 0 w5 u p.edges := InB.of hU fun _ _ _ => rfl
    exact h0.keep fun b _ h1 h2 h3 => hk8 b (by omega) h3

/-! ### Several rounds -/

end Go.Proofs.YtndebacmnpghkaaGreat
end

section
/- Zero rounds: configurations that are good, labelings with one, refusals; both sides. -/
namespace Go.Proofs.YtndebacmnpghkaaGreat
open Go.GX Go.RowKit
set_option maxRecDepth 100000

def zeroC (p : Prob) : Option (List Int) := p.nodes.find? fun c => (badIx p c).isNone
theorem zePairs_ok {w : World} {c d s t : Sl} {p : Prob} {x : List Int} (h : RProb w c d p) (hx : R w s x) (hy : R w t x) :
    Calls Tryz.prog F.s_zePairs #[.agg #[.int .i64 p.labels, .int .i64 p.degree, c.v, d.v], s.v, t.v] w (Ret [.at .bool] fun (b : Bool) w' => Ext w w' ∧ b = (badIx p x).isNone) := by
  refine C_s_zePairs ?_
  unfold V_s_zePairs
  refine NEW_intro fun pp w1 hp1 hs1 hE1 hb1 => LD_iiss hb1 ?_
  replace h := h.ext hE1
  replace hx := hx.ext hE1
  replace hy := hy.ext hE1
  refine call (zeBad_ok h hx hy) ?_
  rintro i j b w2 ⟨hE2, hr⟩
  refine ⟨hE1.trans hE2, ?_⟩
  cases hq : badIx p x with
  | none => rw [hq] at hr; simp only at hr; subst hr; rfl
  | some q => rw [hq] at hr; simp only at hr; rw [hr.1]; rfl

theorem zero_step {p : Prob} {i : Nat} (hi : i < p.nodes.length) (h : zeroC p = (p.nodes.drop i).find? fun c => (badIx p c).isNone) :
    ((badIx p p.nodes[i]).isNone = true → zeroC p = some p.nodes[i]) ∧ ((badIx p p.nodes[i]).isNone = false → zeroC p = (p.nodes.drop (i + 1)).find? fun c => (badIx p c).isNone) := by
  rw [List.drop_eq_getElem_cons hi] at h
  constructor
  · intro ht
    rw [h, List.find?_cons]
    simp [ht]
  · intro hf
    rw [h, List.find?_cons]
    simp [hf]

def ZcIs (w : World) (p : Prob) (s : Sl) (b : Bool) (w' : World) : Prop := Ext w w' ∧ match zeroC p with | some c => b = true ∧ OwnL w' w.heap.size T.t_int s c | none => b = false

theorem zeGood_ok {w : World} {c d : Sl} {p : Prob} (h : RProb w c d p) (hs : SmallP p) :
    Calls Tryz.prog F.s_zeGood #[.agg #[.int .i64 p.labels, .int .i64 p.degree, c.v, d.v]] w (Ret [.at .sl, .at .bool] fun (s : Sl) (b : Bool) w' => ZcIs w p s b w') := by
  refine C_s_zeGood ?_
  unfold V_s_zeGood
  refine NEW_intro fun pp w1 hp1 hs1 hE hb1 => LD_bs2 hb1 ?_
  replace h := h.ext hE
  have hn := hs.1.1
  rw [h.nodes.len]
  refine ⟨IN p.nodes.length fun i w' => Ext w1 w' ∧ zeroC p = (p.nodes.drop i).find? fun c => (badIx p c).isNone, MN p.nodes.length, IN_zero ⟨Ext.refl _, rfl⟩, ?_⟩
  rintro _ w2 ⟨i, rfl, hi, hE2, hI⟩
  intros
  refine cond_dec (fun hlt => ?_) (fun hge => ⟨hE.trans hE2, ?_⟩)
  · have hi' : i < p.nodes.length := by omega
    have hst := zero_step hi' hI
    replace h := h.ext hE2
    replace hb1 := hb1.ext hE2
    refine h.nodes.ixL hi' fun q row hrow hc => LD_sl hc (LD_iiss hb1 ?_)
    refine call (zePairs_ok h hrow.any hrow.any) ?_
    rintro b w3 ⟨hE3, rfl⟩
    refine cond_b (fun ht => ?_) (fun hf => IN_next h.nodes.le hi' ⟨hE2.trans hE3, hst.2 hf⟩)
    refine call (l1Own_ok (hrow.any.ext hE3) (hs.1.2 _ (List.getElem_mem hi'))) ?_
    rintro r w4 ⟨hE4, hO4⟩
    refine ⟨hE.trans (hE2.trans (hE3.trans hE4)), ?_⟩
    rw [hst.1 ht]
    exact ⟨rfl, hO4.low (hE.trans (hE2.trans hE3)).size_le⟩
  · have : i = p.nodes.length := by omega
    subst this
    rw [hI, List.drop_length, List.find?_nil]

/-! ### Labelings with one configuration -/

end Go.Proofs.YtndebacmnpghkaaGreat
end

section
/- Refusals of zero rounds: RefusalOfZero, both sides. -/
namespace Go.GX
open Go.RowKit
theorem slr_one {α : Type} [RepP α] {D : Nat → Prop} {w : World} {s : Sl} {l : List α} (h : SlR D w s l) {i : Nat} (hi : i < l.length) {sz : Nat} (hsz : sz = Rep.sz α) {K : Sl → Prop} (hk : ∀ s', SlR D w s' [l[i]] → K s') : SLC s (some (i : Int)) (some ((i + 1 : Nat) : Int)) sz K := by
  subst hsz
  have h1 := h.1
  have h2 := h.2.1
  obtain ⟨a, cs, e1, e2, e3, e4⟩ := h.2.2 i l[i] (by simp [hi])
  refine ⟨by simp, by simp; omega, by simp; omega, hk _ ⟨by simp, by simp; omega, fun j x hx => ?_⟩⟩
  have hj : j = 0 := by
    have := (List.getElem?_eq_some_iff.1 hx).1
    simp at this; omega
  subst hj
  simp only [List.getElem?_cons_zero, Option.some.injEq] at hx
  subst hx
  refine ⟨a.add (i * Rep.sz α), cs, ?_, by rw [add_block]; exact e2, e3, fun t v ht => ?_⟩
  · simp [e1]
    omega
  · rw [add_add, Nat.zero_mul, Nat.zero_add]
    exact e4 t v ht
theorem slr_ixD {D : Nat → Prop} {w : World} {s : Sl} {l : List Int} (h : SlR D w s l) {i : Nat} (hi : i < l.length) {K : Addr → Prop} (hk : ∀ p, D p.block → w.cell? p = some (.int .i64 l[i]) → K p) : IX s i 1 K := by
  obtain ⟨a, cs, ha, hD, ⟨rfl, _⟩, hc⟩ := h.2.2 i l[i] (by simp [hi])
  have hl := h.1
  exact ⟨a, ha, by omega, by omega, hk _ (by rw [add_block]; exact hD) (hc 0 _ rfl)⟩
end Go.GX
namespace Go.Proofs.YtndebacmnpghkaaGreat
open Go.GX Go.RowKit
set_option maxRecDepth 100000

def RfAsked (p : Prob) : Prop := ∀ c ∈ p.nodes, (badIx p c).isSome = true
def refL (p : Prob) : List (List Int) := p.nodes.map (badPr p)
def refT (p : Prob) (i : Nat) : List (List Int) := ((p.nodes.take i).filter fun c => (badIx p c).isSome).map (badPr p)

theorem refT_succ {p : Prob} {i : Nat} (hi : i < p.nodes.length) : refT p (i + 1) = refT p i ++ (if (badIx p p.nodes[i]).isSome = true then [badPr p p.nodes[i]] else []) := by
  unfold refT
  rw [List.take_succ_eq_append_getElem hi, List.filter_append, List.map_append]
  congr 1
  by_cases h : (badIx p p.nodes[i]).isSome = true
  · simp [h]
  · simp [h]
theorem refT_len (p : Prob) (i : Nat) : (refT p i).length ≤ i := by
  unfold refT
  rw [List.length_map]
  exact Nat.le_trans (List.length_filter_le _ _) (by rw [List.length_take]; omega)
theorem refT_all {p : Prob} : ((refT p p.nodes.length).length = p.nodes.length ↔ RfAsked p) ∧ (RfAsked p → refT p p.nodes.length = refL p) := by
  unfold refT
  rw [List.take_length, List.length_map]
  constructor
  · rw [List.length_filter_eq_length_iff]
    exact Iff.rfl
  · intro h
    rw [List.filter_eq_self.2 h]
    rfl

theorem badPr_row {p : Prob} (hg : PGood p) {c : List Int} (hc : c ∈ p.nodes) : (badPr p c).length ≤ 2 ∧ ∀ x ∈ badPr p c, I64 x := by
  obtain ⟨i, hi, rfl⟩ := List.mem_iff_getElem.1 hc
  have hl := hg.lab
  have h3 := (hg.nodes.row i hi).2.2
  unfold badPr
  cases hq : badIx p p.nodes[i] with
  | none => simp
  | some q =>
    obtain ⟨u, v⟩ := q
    obtain ⟨h1, h2⟩ := badIx_some hq
    refine ⟨by simp, fun x hx => ?_⟩
    simp only [List.mem_cons, List.not_mem_nil, or_false] at hx
    rcases hx with rfl | rfl
    · rw [get_at h1]; have := h3 _ (List.getElem_mem h1); unfold I64; omega
    · rw [get_at h2]; have := h3 _ (List.getElem_mem h2); unfold I64; omega

theorem refT_rows {p : Prob} (hg : PGood p) (i : Nat) : ∀ r ∈ refT p i, r.length ≤ 2 ∧ ∀ x ∈ r, I64 x := fun r hr => by
  unfold refT at hr
  obtain ⟨c, hc, rfl⟩ := List.mem_map.1 hr
  exact badPr_row hg (List.mem_of_mem_take (List.mem_filter.1 hc).1)

def RfIs (p : Prob) (w : World) (r : Sl) (ok : Bool) (w' : World) : Prop := Ext w w' ∧ ((ok = true ∧ RfAsked p ∧ OutM w.heap.size w' r (refL p)) ∨ (ok = false ∧ ¬ RfAsked p))

theorem rf_out {p : Prob} (hg : PGood p) (hs : SmallP p) (hA : RfAsked p) {base : Nat} {w : World} {r : Sl} {ss : List Sl} (hM : RowsD w base T.t_int T.t_sl_int r (refT p p.nodes.length) ss) : OutM base w r (refL p) := by
  have e := refT_all.2 hA
  have hr := refT_rows hg p.nodes.length
  rw [e] at hM hr
  refine ⟨⟨ss, hM⟩, fun q hq => (hr q hq).2, ?_, fun q hq => by have := (hr q hq).1; omega⟩
  have := hs.1.1
  unfold refL
  rw [List.length_map]
  exact this

set_option maxHeartbeats 800000 in
theorem RefusalOfZero_ok {w : World} {c d : Sl} {p : Prob} (h : RProb w c d p) (hs : SmallP p) (hg : PGood p) :
    Calls Tryz.prog F.i_RefusalOfZero #[.agg #[.int .i64 p.labels, .int .i64 p.degree, c.v, d.v]] w (Ret [.at .sl, .at .bool] fun (r : Sl) (ok : Bool) w' => RfIs p w r ok w') := by
  refine C_i_RefusalOfZero ?_
  unfold V_i_RefusalOfZero
  refine NEW_intro fun pp w1 hp1 hs1 hE hb1 => LD_iiss hb1 ?_
  replace h := h.ext hE
  refine call (IsProblem_ok h) ?_
  rintro x w2 ⟨hx, hE2⟩
  replace hE := hE.ext hE2
  replace h := h.ext hE2
  replace hb1 := hb1.ext hE2
  refine cond_not (fun hf => by rw [hx.2 hg] at hf; cases hf) (fun _ => LD_bs2 hb1 ?_)
  have hn := hs.1.1
  have hz2 := hE.size_le
  rw [h.nodes.len]
  refine ⟨IN2 p.nodes.length fun i (out : Sl) w' => Ext w2 w' ∧ ∃ ss, RowsD w' w2.heap.size T.t_int T.t_sl_int out (refT p i) ss, MN2 p.nodes.length, IN2_zero ⟨Ext.refl _, [], by simpa [refT] using RowsD.nil _ _ _ _⟩, ?_⟩
  rintro out _ w3 ⟨i, rfl, hi, hE3, ss, hM⟩
  intros
  refine cond_dec (fun hlt => ?_) (fun hge => ?_)
  · have hi' : i < p.nodes.length := by omega
    have hz3 := hE3.size_le
    refine (h.nodes.ext hE3).ixL hi' fun q row hrow hc => LD_sl hc ?_
    rw [hrow.len]
    have hrl := hs.1.2 _ (List.getElem_mem hi')
    refine ⟨fun (o2 : Sl) (x : Int) w' => o2 = out ∧ ∃ k : Nat, x = k ∧ k ≤ p.nodes[i].length ∧ Ext w3 w' ∧ ∀ u, u < k → ∀ v, v < p.nodes[i].length → edgeB p (p.nodes[i].getD u 0) (p.nodes[i].getD v 0) = true, fun _ x _ => p.nodes[i].length - x.toNat, ⟨rfl, 0, rfl, Nat.zero_le _, Ext.refl _, fun u hu => absurd hu (by omega)⟩, ?_⟩
    rintro _ _ w4 ⟨rfl, k, rfl, hk, hE4, hI⟩
    intros
    refine cond_dec (fun hlt2 => ?_) (fun hge2 => ?_)
    · have hk' : k < p.nodes[i].length := by omega
      intro w5 hE5 _
      have hE35 := hE4.trans hE5
      have e1 : IntKind.i64.wrap ((k : Int) + 1) = ((k + 1 : Nat) : Int) := by rw [wrap_of (by omega) (by omega)]; omega
      rw [e1]
      refine LD_iiss (hb1.ext (hE3.trans hE35)) ?_
      refine slr_one (hrow.ext hE35) hk' rfl fun s1 hs1 => ⟨Ext.refl _, ?_⟩
      refine slr_drop (hrow.ext hE35) (i := k) (by omega) rfl fun s2 hs2 => ⟨Ext.refl _, ?_⟩
      refine call (badPair_ok (h.ext (hE3.trans hE35)) hs hg hs1.any hs2.any) ?_
      rintro r b w6 ⟨hE6, hr⟩
      refine ⟨hE6, hE6, hE6, ?_⟩
      have ht := badAt_tail hk' hI
      have hE36 := hE35.trans hE6
      have hz6 := hE36.size_le
      cases hq : badAt p [p.nodes[i][k]] (p.nodes[i].drop k) with
      | some q =>
        rw [hq] at hr ht
        obtain ⟨rfl, hO⟩ := hr
        obtain ⟨j, hkj, hbx, hqe⟩ := ht
        refine cond_t rfl ?_
        refine RUN_lit1 (α := Sl) slt_rows r rfl (by decide) fun y w7 hE7 hO7 => ?_
        have hz7 := hE7.size_le
        have hz5 := hE35.size_le
        have hrl2 := refT_len p i
        refine RUN_append_rowD slt_rows (by decide) (hM.ext (hE36.trans hE7)) (by omega) ((hO.ext hE7).low (show w2.heap.size ≤ _ by omega)) (hM.fresh hO (by omega)) hO7 (by omega) (by unfold maxLen; omega) fun s' w8 hM8 hs8 => ?_
        refine IN2_next (by omega) hi' ⟨hs8.ext0 (hE3.trans (hE36.trans hE7)) fun b hb => (hM.own.blk b hb).1, ss ++ [r], ?_⟩
        have e2 : badPr p p.nodes[i] = [q.1, q.2] := by
          unfold badPr
          rw [hbx, hqe]
        rw [refT_succ hi', hbx]
        simp only [Option.isSome_some, if_true]
        rw [e2]
        exact hM8
      | none =>
        rw [hq] at hr ht
        simp only at hr
        subst hr
        refine cond_f rfl ?_
        refine ⟨⟨rfl, k + 1, by omega, by omega, hE36, fun u hu v hv => ?_⟩, by simp only []; omega⟩
        by_cases huk : u = k
        · subst huk; exact ht v hv
        · exact hI u (by omega) v hv
    · have : k = p.nodes[i].length := by omega
      subst this
      refine IN2_next (by omega) hi' ⟨hE3.trans hE4, ss, ?_⟩
      rw [refT_succ hi', badIx_no hI]
      simp only [Option.isSome_none, Bool.false_eq_true, if_false, List.append_nil]
      exact hM.ext hE4
  · have : i = p.nodes.length := by omega
    subst this
    refine LD_bs2 (hb1.ext hE3) ?_
    have hol : out.len = (refT p p.nodes.length).length := by rw [hM.own.1, hM.len]
    rw [hol, h.nodes.len]
    have hle := refT_len p p.nodes.length
    refine cond_dec (fun hlt => ⟨hE.trans hE3, .inr ⟨rfl, fun hA => ?_⟩⟩) (fun hge2 => ?_)
    · have := refT_all.1.2 hA
      omega
    · have hA : RfAsked p := refT_all.1.1 (by omega)
      exact ⟨hE.trans hE3, .inl ⟨rfl, hA, rf_out hg hs hA (hM.low hz2)⟩⟩

set_option maxHeartbeats 800000 in
theorem sRefusalOfZero_ok {w : World} {c d : Sl} {p : Prob} (h : RProb w c d p) (hs : SmallP p) (hg : PGood p) :
    Calls Tryz.prog F.s_RefusalOfZero #[.agg #[.int .i64 p.labels, .int .i64 p.degree, c.v, d.v]] w (Ret [.at .sl, .at .bool] fun (r : Sl) (ok : Bool) w' => RfIs p w r ok w') := by
  refine C_s_RefusalOfZero ?_
  unfold V_s_RefusalOfZero
  refine NEW_intro fun pp w1 hp1 hs1 hE hb1 => LD_iiss hb1 ?_
  replace h := h.ext hE
  refine call (prGood_ok h) ?_
  rintro x w2 ⟨hx, hE2⟩
  replace hE := hE.ext hE2
  replace h := h.ext hE2
  replace hb1 := hb1.ext hE2
  refine cond_not (fun hf => by rw [hx.2 hg] at hf; cases hf) (fun _ => LD_iiss hb1 ?_)
  refine call (zeGood_ok h hs) ?_
  rintro s1 b1 w3 ⟨hE3, hz⟩
  replace hE := hE.ext hE3
  replace h := h.ext hE3
  replace hb1 := hb1.ext hE3
  have hn := hs.1.1
  have hz3 := hE.size_le
  cases hq : zeroC p with
  | some cc =>
    rw [hq] at hz
    obtain ⟨rfl, _⟩ := hz
    refine cond_t rfl ⟨hE, .inr ⟨rfl, fun hA => ?_⟩⟩
    have h1 := List.find?_some hq
    have h2 := hA cc (List.mem_of_find?_eq_some hq)
    cases hbx : badIx p cc with
    | none => rw [hbx] at h2; cases h2
    | some q => simp only [hbx] at h1; cases h1
  | none =>
    rw [hq] at hz
    simp only at hz
    subst hz
    have hA : RfAsked p := fun cc hcc => by
      have h1 := List.find?_eq_none.1 hq cc hcc
      cases hbx : badIx p cc with
      | none => rw [hbx] at h1; exact absurd rfl h1
      | some q => rfl
    refine cond_f rfl (LD_bs2 hb1 ?_)
    have hND := h.nodes.below
    rw [h.nodes.len]
    refine ⟨IN2 p.nodes.length fun i (out : Sl) w' => Ext w3 w' ∧ ∃ ss, RowsD w' w3.heap.size T.t_int T.t_sl_int out (refT p i) ss, MN2 p.nodes.length, IN2_zero ⟨Ext.refl _, [], by simpa [refT] using RowsD.nil _ _ _ _⟩, ?_⟩
    rintro out _ w4 ⟨i, rfl, hi, hE4, ss, hM⟩
    intros
    refine cond_dec (fun hlt => ?_) (fun hge => ?_)
    · have hi' : i < p.nodes.length := by omega
      have hz4 := hE4.size_le
      refine (hND.ext hE4).ixL hi' fun q row hrow hc => LD_sl hc (LD_iiss (hb1.ext hE4) ?_)
      have hrl := hs.1.2 _ (List.getElem_mem hi')
      refine call (zeBad_ok (h.ext hE4) hrow.any hrow.any) ?_
      rintro u v b w5 ⟨hE5, hr⟩
      have hA1 := hA _ (List.getElem_mem hi')
      cases hbx : badIx p p.nodes[i] with
      | none => rw [hbx] at hA1; cases hA1
      | some qq =>
        obtain ⟨u', v'⟩ := qq
        rw [hbx] at hr
        obtain ⟨rfl, rfl, rfl⟩ := hr
        obtain ⟨hu, hv⟩ := badIx_some hbx
        intro w6 hE6 _
        have hE46 := hE5.trans hE6
        have hz6 := hE46.size_le
        refine ⟨oB out, ?_⟩
        refine slr_ixD (hrow.ext hE46) hu fun q1 hD1 hc1 => ⟨fun hh => by have h1 := (hM.own.blk _ hh).1; have h2 : _ < w3.heap.size := hD1.2; omega, LD_int hc1 ⟨Chg.refl _ _, ?_⟩⟩
        refine (hrow.any.ext hE46).ixI hv fun q2 hI2 hc2 => ⟨Chg.refl _ _, LD_int hc2 ⟨Chg.refl _ _, ?_⟩⟩
        refine RUN_lits slt_int [p.nodes[i][u'], p.nodes[i][v']] (by simp) (by simp) rfl rfl fun r w7 hE7 hO7 => ⟨.of_ext hE7, ?_⟩
        refine RUN_lit1 (α := Sl) slt_rows r rfl (by decide) fun y w8 hE8 hO8 => ⟨.of_ext (hE7.trans hE8), ?_⟩
        have hz7 := hE7.size_le
        have hz8 := hE8.size_le
        have hrl2 := refT_len p i
        refine RUN_append_rowD slt_rows (by decide) (hM.ext (hE46.trans (hE7.trans hE8))) (by omega) ((hO7.ext hE8).low (show w3.heap.size ≤ _ by omega)) (hM.fresh hO7 (by omega)) hO8 (by omega) (by unfold maxLen; omega) fun s' w9 hM9 hs9 => ?_
        have hE9 : ∀ {w0 : World}, Ext w0 w4 → w0.heap.size ≤ w3.heap.size → Ext w0 w9 := fun h0 h1 => hs9.ext0 ((h0.trans hE46).trans (hE7.trans hE8)) fun b hb => by have := (hM.own.blk b hb).1; omega
        refine ⟨Chg.trans (Chg.of_ext (hE7.trans hE8)) (.of_step hs9 fun b hb => hb), ?_⟩
        refine IN2_next (by omega) hi' ⟨hE9 hE4 (Nat.le_refl _), ss ++ [r], ?_⟩
        have e2 : badPr p p.nodes[i] = [p.nodes[i][u'], p.nodes[i][v']] := by
          unfold badPr
          rw [hbx]
          simp only
          rw [get_at hu, get_at hv]
        rw [refT_succ hi', hbx]
        simp only [Option.isSome_some, if_true]
        rw [e2]
        exact hM9
    · have : i = p.nodes.length := by omega
      subst this
      exact ⟨hE.trans hE4, .inl ⟨rfl, hA, rf_out hg hs hA (hM.low hz3)⟩⟩

end Go.Proofs.YtndebacmnpghkaaGreat
end

section
/- The bound with some problems: BuildBound, both sides. -/
namespace Go.Proofs.YtndebacmnpghkaaGreat
open Go.GX Go.RowKit
set_option maxRecDepth 100000

/-! ### In plain words -/

def noP : Prob := ⟨0, 0, [], []⟩
def noB : Bnd := ⟨[], [], []⟩
def pAt (ps : List Prob) (i : Nat) : Prob := ps.getD i noP
theorem pAt_get {ps : List Prob} {i : Nat} (hi : i < ps.length) : pAt ps i = ps[i] := by unfold pAt; simp [hi]
noncomputable def mapAt (ps : List Prob) (i : Nat) : List Int := (mapPQ (roundP (pAt ps i)) (pAt ps (i + 1))).getD []
noncomputable def mapsOf (ps : List Prob) : List (List Int) := (List.range (ps.length - 1)).map (mapAt ps)
def stepOk (ps : List Prob) (i : Nat) : Prop := rdFew (pAt ps i) ∧ ∃ f, mapPQ (roundP (pAt ps i)) (pAt ps (i + 1)) = some f
structure BbAsked (ps : List Prob) : Prop where
  ok : PsOk ps
  step : ∀ i, i + 1 < ps.length → stepOk ps i
  last : RfAsked (pAt ps (ps.length - 1))
noncomputable def bbOf (ps : List Prob) : Bnd := ⟨ps, mapsOf ps, refL (pAt ps (ps.length - 1))⟩

theorem mapsOf_len (ps : List Prob) : (mapsOf ps).length = ps.length - 1 := by simp [mapsOf]
theorem mapsOf_take {ps : List Prob} {i : Nat} (hi : i + 1 < ps.length) : (mapsOf ps).take (i + 1) = (mapsOf ps).take i ++ [mapAt ps i] := by
  have h : i < (mapsOf ps).length := by rw [mapsOf_len]; omega
  rw [List.take_succ_eq_append_getElem h]
  simp [mapsOf]

theorem round_deg (p : Prob) : (roundP p).degree = p.degree := rfl

theorem map_row {p q : Prob} (hp : PGood p) (hq : PGood q) {f : List Int} (h : mapPQ p q = some f) : f.length ≤ 8 ∧ ∀ x ∈ f, I64 x := by
  have hm := bestM_map h
  have h1 := hm.len
  have h2 := hp.lab
  have h3 := hq.lab
  refine ⟨by omega, fun x hx => ?_⟩
  have := hm.labs x hx
  unfold I64; omega

/-! ### Parts that grow -/

theorem OutPS.blk {base top : Nat} {own : Nat → Nat} {w : World} {s : Sl} {l : List Prob} (h : OutPS base top own w s l) {k : Nat} (hk : s.v.ownBlock = some k) : own k = 2 ∧ base ≤ k ∧ k < top ∧ k < w.heap.size := by
  obtain ⟨rs, hO, _, hb, _⟩ := h.ex
  exact ⟨(hb k hk).1, (hO.blk k hk).1, (hb k hk).2, (hO.blk k hk).2⟩
theorem InB.blk {base top : Nat} {own : Nat → Nat} {i : Nat} {w : World} {s : Sl} {L : List (List Int)} (h : InB base top own i w s L) {k : Nat} (hk : s.v.ownBlock = some k) : own k = i ∧ base ≤ k ∧ k < top ∧ k < w.heap.size := by
  obtain ⟨ss, hM, hb⟩ := h.ex
  exact ⟨(hb k (.inl hk)).1, (hM.blk (.inl hk)).1, (hb k (.inl hk)).2, (hM.blk (.inl hk)).2⟩
theorem OutPS.nil (base top : Nat) (own : Nat → Nat) (w : World) : OutPS base top own w ⟨none, 0, 0⟩ [] := ⟨⟨[], OwnL.nil _ _ _, rfl, (fun b hb => by cases hb), (fun j h1 => by simp at h1)⟩, by simp⟩
theorem OutPS.low {base top : Nat} {own : Nat → Nat} {w : World} {s : Sl} {l : List Prob} (h : OutPS base top own w s l) {b : Nat} (hb : b ≤ base) : OutPS b top own w s l := by
  obtain ⟨⟨rs, hO, h2, h3, h4⟩, h5⟩ := h
  exact ⟨⟨rs, hO.low hb, h2, h3, fun j k1 k2 => have hr := h4 j k1 k2; ⟨hr.x, hr.y, hr.lab, hr.deg, hr.nodes.low hb, hr.edges.low hb⟩⟩, h5⟩

theorem RUN_append_map {w0 w1 : World} {base top b1 : Nat} {own : Nat → Nat} {s y r : Sl} {L : List (List Int)} {f : List Int} (h : InB base top own 0 w0 s L) (ht : top ≤ w0.heap.size) (hbase : base ≤ w0.heap.size) (hE : Ext w0 w1) (hr : OwnL w1 w0.heap.size T.t_int r f) (hf : f.length ≤ 8 ∧ ∀ x ∈ f, I64 x) (hl : L.length + 1 ≤ 1000)
    (hy : OwnL w1 b1 T.t_sl_int y [r]) {K : Sl → World → Prop}
    (hk : ∀ s' w2, InB base w2.heap.size (fun b => if b < w0.heap.size then own b else 0) 0 w2 s' (L ++ [f]) → Step w1 w2 s.v.ownBlock → K s' w2) : RUN Tryz.prog (.at .sl) (bsem .append #[T.t_sl_sl_int, T.t_sl_sl_int] T.t_sl_sl_int #[s.v, y.v]) w1 K := by
  obtain ⟨ss, hM, hb⟩ := h.ex
  have hz := hE.size_le
  refine RUN_append_rowDF slt_rows (by decide) (hM.ext hE) (by omega) (hr.low hbase) (hM.fresh hr (Nat.le_refl _)) hy (by omega) (by unfold maxLen; omega) fun s' w2 hM2 hs2 hN => hk s' w2 ⟨⟨ss ++ [r], hM2, fun b hB => ⟨?_, (hM2.blk hB).2⟩⟩, fun q hq => ?_, by simp; omega, fun q hq => ?_⟩ hs2
  · have old : ∀ c, MB s ss c → (if c < w0.heap.size then own c else 0) = 0 := fun c hc => by
      rw [if_pos (by have := (hb c hc).2; omega)]
      exact (hb c hc).1
    rcases hB with hB | ⟨q, hq, hqb⟩
    · rcases hN with hN | hN
      · rw [hN] at hB; exact old b (.inl hB)
      · have := hN b hB
        rw [if_neg (by omega)]
    · rcases List.mem_append.1 hq with hq | hq
      · exact old b (.inr ⟨q, hq, hqb⟩)
      · rw [List.mem_singleton.1 hq] at hqb
        have := (hr.blk b hqb).1
        rw [if_neg (by omega)]
  · rcases List.mem_append.1 hq with hq | hq
    · exact h.i64 q hq
    · rw [List.mem_singleton.1 hq]; exact hf.2
  · rcases List.mem_append.1 hq with hq | hq
    · exact h.small q hq
    · rw [List.mem_singleton.1 hq]; omega

theorem soCopy_ok {w : World} {s : Sl} {L : List (List Int)} (h : R w s L) (hs : SmallM L) :
    Calls Tryz.prog F.s_soCopy #[s.v] w (Ret [.at .sl] fun (r : Sl) w' => Ext w w' ∧ OutM w.heap.size w' r L) := by
  refine C_s_soCopy ?_
  unfold V_s_soCopy
  obtain ⟨hl, hll⟩ := hs
  rw [h.len]
  refine ⟨IN2 L.length fun i (out : Sl) w' => Ext w w' ∧ ∃ ss, RowsD w' w.heap.size T.t_int T.t_sl_int out (L.take i) ss, MN2 L.length, IN2_zero ⟨Ext.refl _, [], RowsD.nil _ _ _ _⟩, ?_⟩
  rintro out _ w1 ⟨i, rfl, hi, hE1, ss, hM⟩
  intros
  refine cond_dec (fun hlt => ?_) (fun hge => ?_)
  · have hi' : i < L.length := by omega
    have hz1 := hE1.size_le
    refine (h.ext hE1).ixL hi' fun q row hrow hc => LD_sl hc ?_
    refine call (l1Own_ok hrow.any (hll _ (List.getElem_mem hi'))) ?_
    rintro r w2 ⟨hE2, hO2⟩
    refine RUN_lit1 (α := Sl) slt_rows r rfl (by decide) fun y w3 hE3 hO3 => ?_
    have hz2 := hE2.size_le
    have hz3 := hE3.size_le
    refine RUN_append_rowD slt_rows (by decide) (hM.ext (hE2.trans hE3)) (by omega) ((hO2.ext hE3).low hz1) (hM.fresh hO2 (Nat.le_refl _)) hO3 (by simp; omega) (by simp [maxLen]; omega) fun s' w4 hM4 hs4 => ?_
    refine IN2_next (by omega) hi' ⟨hs4.ext0 (hE1.trans (hE2.trans hE3)) fun b hb => (hM.own.blk b hb).1, ss ++ [r], ?_⟩
    rw [List.take_succ_eq_append_getElem hi']
    exact hM4
  · have : i = L.length := by omega
    subst this
    rw [List.take_length] at hM
    exact ⟨hE1, ⟨ss, hM⟩, flat_okII h, hl, hll⟩

theorem boOwn_ok {w : World} {c d : Sl} {p : Prob} (h : RProb w c d p) (hs : SmallP p) :
    Calls Tryz.prog F.s_boOwn #[.agg #[.int .i64 p.labels, .int .i64 p.degree, c.v, d.v]] w (Ret [.agg [.int .i64, .int .i64, .sl, .sl]] fun (x y : Int) (z u : Sl) w' => x = p.labels ∧ y = p.degree ∧ Ext w w' ∧ ∃ mid hi, FreshP w.heap.size mid hi w' z u p) := by
  refine C_s_boOwn ?_
  unfold V_s_boOwn
  refine NEW_intro fun pp w1 hp1 hs1 hE1 hb1 => NEW_intro fun px w2 hp2 hs2 hE2 hb2 => ?_
  intro w3 hE3 _
  have hE := (hE1.trans hE2).trans hE3
  have hE23 := hE2.trans hE3
  have hz1 := hE1.size_le
  have hz23 := hE23.size_le
  have hlt2 := hb2.lt
  have hz33 := hE3.size_le
  replace h := h.ext hE
  replace hb1 := hb1.ext hE23
  replace hb2 := hb2.ext hE3
  refine ⟨fun _ => False, not_false, LD_bi0 hb1 ⟨not_false, LD_bi1 hb1 ⟨not_false, LD_bs2 hb1 ⟨not_false, LD_bs3 hb1 ?_⟩⟩⟩⟩
  refine call (soCopy_ok h.nodes hs.1) ?_
  rintro z w4 ⟨hE4, hZ⟩
  refine ⟨Chg.of_ext hE4, ?_⟩
  refine call (soCopy_ok (h.edges.ext hE4) hs.2) ?_
  rintro u w5 ⟨hE5, hU⟩
  have hE45 := hE4.trans hE5
  refine ⟨.of_ext hE45, .of_ext hE45, ?_⟩
  have hz3 := hE.size_le
  have hz4 := hE4.size_le
  have hz5 := hE5.size_le
  refine ST_all (hb2.ext hE45) (one4p _ _ _ _) rfl fun w6 hs6 hz6 hb6 => LD_iiss hb6 ?_
  have hk6 : ∀ b, w3.heap.size ≤ b → b < w5.heap.size → w6.heap[b]? = w5.heap[b]? := fun b h1 h2 => hs6.block b h2 (by intro he; cases he; omega)
  refine ⟨rfl, rfl, hs6.ext0 (hE.trans hE45) fun k hk => by cases hk; omega, w4.heap.size, w5.heap.size, ?_, ?_, by omega, hE5.size_le, by omega⟩
  · have h0 : InB w3.heap.size w4.heap.size (fun _ => 0) 0 w4 z p.nodes := InB.of hZ fun _ _ _ => rfl
    exact ((h0.ext hE5).keep fun b _ h1 h2 h3 => hk6 b h1 h3).low hz3
  · have h0 : InB w4.heap.size w5.heap.size (fun _ => 0) 0 w5 u p.edges := InB.of hU fun _ _ _ => rfl
    exact h0.keep fun b _ h1 h2 h3 => hk6 b (by omega) h3

/-- What is kept while a bound is built, in the variable p4. -/
structure BuildS (w : World) (p2 p4 : Addr) (base : Nat) (ps : List Prob) (i : Nat) (w' : World) : Prop where
  ext : Ext w w'
  lo : base ≤ w'.heap.size
  box2 : Box w' p2 T.t_i_Bound [.slice none 0 0, .slice none 0 0, .slice none 0 0]
  ex : ∃ (s1 s2 : Sl) (own : Nat → Nat), Box w' p4 T.t_i_Bound [s1.v, s2.v, (⟨none, 0, 0⟩ : Sl).v] ∧ OutPS base w'.heap.size own w' s1 (ps.take i) ∧ InB base w'.heap.size own 0 w' s2 ((mapsOf ps).take (i - 1))
  step : ∀ j, j + 1 < i → stepOk ps j

def BbIs (w : World) (ps : List Prob) (a b c : Sl) (ok : Bool) (w' : World) : Prop := Ext w w' ∧ ∃ B, OutB w.heap.size w'.heap.size w' a b c B ∧ AnsG (BbAsked ps) (bbOf ps) noB B ok

theorem OutB.none (base top : Nat) (w : World) : OutB base top w ⟨none, 0, 0⟩ ⟨none, 0, 0⟩ ⟨none, 0, 0⟩ noB := ⟨fun _ => 0, OutPS.nil _ _ _ _, InB.nil _ _ _ _ _, InB.nil _ _ _ _ _⟩

theorem bb_no {w w' : World} {p2 : Addr} {ps : List Prob} (hE : Ext w w') (hb : Box w' p2 T.t_i_Bound [.slice none 0 0, .slice none 0 0, .slice none 0 0]) (hp : w.heap.size ≤ p2.block) (hno : ¬ BbAsked ps) : GX.ST p2 0 [.slice none 0 0, .slice none 0 0, .slice none 0 0] w' fun w'' => LD [.sl, .sl, .sl] p2 w'' fun (a : Sl) (b : Sl) (c : Sl) => BbIs w ps a b c false w'' :=
  ST_all hb (vs := [(⟨none, 0, 0⟩ : Sl).v, (⟨none, 0, 0⟩ : Sl).v, (⟨none, 0, 0⟩ : Sl).v]) (one3 _ _ _) rfl fun w'' hs _ hb'' => LD_box3 hb'' ⟨hs.ext0 hE fun k hk => by cases hk; omega, noB, OutB.none _ _ _, .no hno⟩

set_option maxHeartbeats 4000000 in
theorem BuildBound_ok {w : World} {s : Sl} {ps : List Prob} (h : R w s ps) (hs : ∀ q ∈ ps, SmallP q)  :
    Calls Tryz.prog F.i_BuildBound #[s.v] w (Ret [.agg [.sl, .sl, .sl], .at .bool] fun (a b c : Sl) (ok : Bool) w' => BbIs w ps a b c ok w') := by
  refine C_i_BuildBound ?_
  unfold V_i_BuildBound
  refine NEW_intro fun p2 w1 hp2 hs1 hE1 hb1 => ?_
  refine call (problemsOk_ok (h.ext hE1)) ?_

  rintro v w2 ⟨hv, hE2⟩
  have hE02 := hE1.trans hE2
  have hb2' := hb1.ext hE2
  have hz02 := hE02.size_le
  refine cond_not (fun hf => bb_no hE02 hb2' (by omega) fun hA => by rw [hv.2 hA.ok] at hf; cases hf) (fun ht => ?_)
  have hps := hv.1 ht
  refine NEW_intro fun p4 w4 hp4 hs4 hE4 hb4 => ?_
  have hE04 := hE02.trans hE4
  have hb24 := hb2'.ext hE4
  have hne24 : p2.block ≠ p4.block := by have := hE2.size_le; omega

  have hz04 := hE04.size_le
  have hlt4 := hb4.lt
  have hl7 := hps.1
  have hg : ∀ j (hj : j < ps.length), PGood ps[j] := fun j hj => (hps.2 _ (List.getElem_mem hj)).1
  have hdg : ∀ j (hj : j < ps.length), ps[j].degree = ps[0].degree := fun j hj => (hps.2 _ (List.getElem_mem hj)).2 (by omega)
  rw [h.len]
  refine ⟨IN ps.length (BuildS w p2 p4 w4.heap.size ps), MN ps.length, IN_zero ⟨hE04, Nat.le_refl _, hb24, ⟨⟨none, 0, 0⟩, ⟨none, 0, 0⟩, fun _ => 0, hb4, OutPS.nil _ _ _ _, InB.nil _ _ _ _ _⟩, fun j hj => by omega⟩, ?_⟩
  rintro _ w5 ⟨i, rfl, hi, hB5⟩
  intros
  obtain ⟨hE5, hz5, hb25, ⟨s1, s2, own, hb45, hO5, hI5⟩, hst5⟩ := hB5
  refine cond_dec (fun hlt => ?_) (fun hge => ?_)
  · have hi' : i < ps.length := by omega
    refine slr_ixP h hi' fun px z u hP0 hc0 => LD_pcells (fun j v hv => hE5.cell (hc0 j v hv)) ?_
    have hP := hP0.ext hE5
    refine NEW_ST (one4p _ _ _ _) rfl fun p6 w7 hp6 hE7 hb6 => ?_
    intro w8 hE8 _
    have hE58 := hE7.trans hE8
    have hE08 := hE5.trans hE58
    have hb48 := hb45.ext hE58
    have hb28 := hb25.ext hE58
    have hb68 := hb6.ext hE8
    have hO8 := hO5.ext hE58
    have hI8 := hI5.ext hE58
    have hP8 := hP.ext hE58
    have hz58 := hE58.size_le
    have hn4 : ¬ oB s1 p4.block := fun hh => by have := (hO5.blk hh).2.1; omega
    refine ⟨oB s1, hn4, LD_bs0 hb48 (LD_iiss hb68 ⟨Chg.refl _ _, ?_⟩)⟩
    refine call (copyProblem_ok hP8 (hs _ (List.getElem_mem hi'))) ?_
    rintro _ _ z9 u9 w9 ⟨rfl, rfl, hE9, mid, hi9, hF⟩
    refine ⟨.of_ext hE9, ?_⟩
    refine RUN_lit1 (α := PRec) slt_prob ⟨ps[i].labels, ps[i].degree, z9, u9⟩ rfl (by decide) fun y w10 hE10 hO10 => ⟨.of_ext (hE9.trans hE10), ?_⟩
    have hz9 := hE9.size_le
    have hz10 := hE10.size_le
    have htl : (ps.take i).length = i := by rw [List.length_take]; omega
    refine RUN_append_prob (top := w5.heap.size) hO8 hz58 (by omega) (hE9.trans hE10) (hF.ext hE10) (Nat.le_refl _) hP.labels hP.degree (by omega) hO10 fun s11 w11 own11 hO11 hag hs11 hblk => ?_
    have hC11 : Chg w8 w11 (oB s1) := (Chg.of_ext (hE9.trans hE10)).trans (.of_step hs11 fun k hk => hk)
    refine ⟨hC11, ?_⟩
    have hz11 := hs11.size
    have hE011 : Ext w w11 := hC11.ext0 hE08 fun k hk => by have := (hO5.blk hk).2.1; omega
    have hb411 := hb48.chg hC11 hn4
    have hn2 : ¬ oB s1 p2.block := fun hh => by have := (hO5.blk hh).2.1; have := hb24.lt; omega
    have hb211 := hb28.chg hC11 hn2
    have hn6 : ¬ oB s1 p6.block := fun hh => by have := (hO5.blk hh).2.2.1; omega
    have hb611 := hb68.chg hC11 hn6
    have hI11 : InB w4.heap.size w11.heap.size own11 0 w11 s2 ((mapsOf ps).take (i - 1)) := ((hI8.away hC11 fun b hb _ _ hD => by have := (hO5.blk hD).1; omega).reown fun b _ _ h2 h3 => by rw [hag b (by omega)]; exact h3).upTo (by omega)
    rw [← List.take_succ_eq_append_getElem hi'] at hO11
    refine ST_box1 hb411 (by simp) rfl fun w12 hz12 hk12 hX12 hb412 => ?_
    have hE012 := hX12 _ hE011 (by omega)
    have hb212 := hb211.of_block (hk12 _ hne24)
    have hb612 := hb611.of_block (hk12 _ (by omega))
    have hO12 : OutPS w4.heap.size w12.heap.size own11 w12 s11 (ps.take (i + 1)) := by
      rw [hz12]
      exact hO11.keep fun b _ h1 _ _ => hk12 b (by omega)
    have hI12 : InB w4.heap.size w12.heap.size own11 0 w12 s2 ((mapsOf ps).take (i - 1)) := by
      rw [hz12]
      exact hI11.keep fun b _ h1 _ _ => hk12 b (by omega)
    refine cond_eq (fun he0 => ?_) (fun hne0 => ?_)
    · have h0 : i = 0 := by have : (i : Int) = 0 := he0; omega
      subst h0
      exact IN_next h.le hi' ⟨hE012, by omega, hb212, ⟨s11, s2, own11, hb412, hO12, hI12⟩, fun j hj => by omega⟩
    · have hpos : 0 < i := by
        rcases Nat.eq_zero_or_pos i with h0 | h0
        · subst h0; exact absurd rfl hne0
        · exact h0
      obtain ⟨j, rfl⟩ : ∃ j, i = j + 1 := ⟨i - 1, by omega⟩
      have hj' : j < ps.length := by omega
      have e1 : IntKind.i64.wrap (((j + 1 : Nat) : Int) - 1) = (j : Int) := by rw [wrap_of (by omega) (by omega)]; omega
      rw [e1]
      generalize hii : j + 1 = i at *
      refine slr_ixP (h.ext hE012) hj' fun q1 z1 u1 hP1 hc1 => LD_pcells hc1 ?_
      refine call (eliminate_ok hP1 (hs _ (List.getElem_mem hj')) (hg j hj')) ?_
      rintro xl xd zr ur a1 a2 bb w13 ⟨hE13, hr⟩
      refine NEW_ST (one4p _ _ _ _) rfl fun p7 w15 hp7 hE15 hb7 => ?_
      have hE1215 := hE13.trans hE15
      have hE015 := hE012.trans hE1215
      have hb215 := hb212.ext hE1215
      have hpj : pAt ps j = ps[j] := pAt_get hj'
      have hpi : pAt ps i = ps[i] := pAt_get hi'
      rcases hr with ⟨rfl, hfw, rfl, rfl, hQ⟩ | ⟨rfl, hnf⟩
      · have hfew : rdFew ps[j] := hfw
        have hQr := hQ.ext hE15
        refine cond_not (fun hf => by cases hf) (fun _ => LD_iiss hb7 (LD_iiss (hb612.ext hE1215) ?_))
        have hgr : PGood (roundP ps[j]) := made_round (hg j hj') hfew
        have hdeg : (roundP ps[j]).degree = ps[i].degree := by rw [round_deg, hdg j hj', hdg i hi']
        have hP15 : RProb w15 z u ps[i] := hP0.ext hE015
        refine call (LabelMapBetween_ok hQr.prob hP15 hgr (hg i hi') hdeg (hs _ (List.getElem_mem hi'))) ?_
        rintro r ok w17 ⟨hE17, hm⟩
        have hz17 := hE17.size_le
        have hz1215 := hE1215.size_le
        have hE017 := hE015.trans hE17
        have hb217 := hb215.ext hE17
        cases hmp : mapPQ (roundP ps[j]) ps[i] with
        | none =>
          rw [hmp] at hm
          simp only at hm
          subst hm
          refine cond_not (fun _ => bb_no hE017 hb217 (by omega) fun hA => ?_) (fun ht => by cases ht)
          obtain ⟨_, f, hf⟩ := hA.step j (by omega)
          rw [hii, hpj, hpi, hmp] at hf
          cases hf
        | some f =>
          rw [hmp] at hm
          obtain ⟨rfl, hOf⟩ := hm
          refine cond_not (fun hf => by cases hf) (fun _ => ?_)
          have hE1217 := hE1215.trans hE17
          refine LD_bs1 (hb412.ext hE1217) ?_
          refine RUN_lit1 (α := Sl) slt_rows r rfl (by decide) fun y18 w18 hE18 hO18 => ?_
          have hz18 := hE18.size_le
          have hI15 : InB w4.heap.size w15.heap.size own11 0 w15 s2 ((mapsOf ps).take (i - 1)) := (hI12.ext hE1215).upTo (by omega)
          have hml : ((mapsOf ps).take (i - 1)).length ≤ 7 := by rw [List.length_take, mapsOf_len]; omega
          refine RUN_append_map (top := w15.heap.size) hI15 (Nat.le_refl _) (by omega) (hE17.trans hE18) (hOf.ext hE18) (map_row hgr (hg i hi') hmp) (by omega) hO18 fun s20 w20 hI20 hs20 => ?_
          have hz20 := hs20.size
          have hC20 : Chg w18 w20 (oB s2) := .of_step hs20 fun k hk => hk
          have hE1218 := hE1217.trans hE18
          have hb4n : ¬ oB s2 p4.block := fun hh => by have := (hI12.blk hh).2.1; omega
          have hb2n : ¬ oB s2 p2.block := fun hh => by have := (hI12.blk hh).2.1; have := hb24.lt; omega
          have hb420 := (hb412.ext hE1218).chg hC20 hb4n
          have hb220 := (hb212.ext hE1218).chg hC20 hb2n
          have hE020 : Ext w w20 := hC20.ext0 (hE012.trans hE1218) fun k hk => by have := (hI12.blk hk).2.1; omega
          have hO20 : OutPS w4.heap.size w20.heap.size (fun b => if b < w15.heap.size then own11 b else 0) w20 s11 (ps.take (i + 1)) := ((hO12.ext hE1218).away hC20 fun b hb _ _ hD => by have := (hI12.blk hD).1; omega).grow (fun b _ hb => by rw [if_pos (by omega)]) (by omega)
          refine ST_box1 hb420 (by simp) rfl fun w21 hz21 hk21 hX21 hb421 => ?_
          have em : (mapsOf ps).take (i - 1) ++ [f] = (mapsOf ps).take i := by
            have e2 := mapsOf_take (ps := ps) (i := j) (by omega)
            have e3 : mapAt ps j = f := by unfold mapAt; rw [hii, hpj, hpi, hmp]; rfl
            rw [e3, hii] at e2
            rw [e2]
            congr 2
            omega
          rw [em] at hI20
          refine IN_next h.le hi' ⟨hX21 _ hE020 (by omega), by omega, hb220.of_block (hk21 _ hne24), ⟨s11, s20, (fun b => if b < w15.heap.size then own11 b else 0), hb421, ?_, ?_⟩, fun j2 hj2 => ?_⟩
          · rw [hz21]
            exact hO20.keep fun b _ h1 _ _ => hk21 b (by omega)
          · rw [hz21]
            exact hI20.keep fun b _ h1 _ _ => hk21 b (by omega)
          · by_cases hjj : j2 = j
            · subst hjj
              refine ⟨by rw [hpj]; exact hfew, f, ?_⟩
              rw [hii, hpj, hpi, hmp]
            · exact hst5 j2 (by omega)
      · refine cond_not (fun _ => bb_no hE015 hb215 (by omega) fun hA => ?_) (fun ht => by cases ht)
        have hsj := hA.step j (by omega)
        unfold stepOk at hsj
        rw [hpj] at hsj
        exact hnf hsj.1
  · have : i = ps.length := by omega
    subst this
    rw [List.take_length] at hO5
    have hlast : ps.length - 1 < ps.length := by omega
    have e1 : IntKind.i64.wrap ((ps.length : Int) - 1) = ((ps.length - 1 : Nat) : Int) := by rw [wrap_of (by omega) (by omega)]; omega
    rw [e1]
    have hpl : pAt ps (ps.length - 1) = ps[ps.length - 1] := pAt_get hlast
    refine slr_ixP (h.ext hE5) hlast fun q1 z1 u1 hP1 hc1 => LD_pcells hc1 ?_
    refine call (RefusalOfZero_ok hP1 (hs _ (List.getElem_mem hlast)) (hg _ hlast)) ?_
    rintro r ok w22 ⟨hE22, hr⟩
    have hE022 := hE5.trans hE22
    have hz22 := hE22.size_le
    rcases hr with ⟨rfl, hA, hM⟩ | ⟨rfl, hno⟩
    · refine cond_not (fun hf => by cases hf) (fun _ => ?_)
      have hI22 : InB w5.heap.size w22.heap.size (fun b => if b < w5.heap.size then own b else 1) 1 w22 r (refL ps[ps.length - 1]) := InB.of hM fun b hb _ => by rw [if_neg (by omega)]
      refine ST_box1 (hb45.ext hE22) (by simp) rfl fun w24 hz24 hk24 hX24 hb24' => LD_box3 hb24' ?_
      refine ST_all ((hb25.ext hE22).of_block (hk24 _ hne24)) (one3 _ _ _) rfl fun w25 hs25 hz25 hb25' => LD_box3 hb25' ?_
      have hlt2 := hb24.lt
      have hk25 : ∀ b, w4.heap.size ≤ b → b < w22.heap.size → w25.heap[b]? = w22.heap[b]? := fun b h1 h2 => by
        rw [hs25.block b (by omega) (by intro he; cases he; omega), hk24 b (by omega)]
      have hlow : w.heap.size ≤ w4.heap.size := hE04.size_le
      refine ⟨hs25.ext0 (hX24 _ hE022 (by omega)) fun k hk => by cases hk; omega, bbOf ps, ⟨fun b => if b < w5.heap.size then own b else 1, ?_, ?_, ?_⟩, ?_⟩
      · exact (((hO5.ext hE22).keep fun b _ h1 _ h3 => hk25 b h1 h3).grow (own' := fun b => if b < w5.heap.size then own b else 1) (fun b _ hb => by rw [if_pos hb]) (by omega)).low hlow
      · have hm : (mapsOf ps).take (ps.length - 1) = mapsOf ps := List.take_of_length_le (by rw [mapsOf_len]; exact Nat.le_refl _)
        rw [hm] at hI5
        exact ((((hI5.ext hE22).keep fun b _ h1 _ h3 => hk25 b h1 h3).reown (own' := fun b => if b < w5.heap.size then own b else 1) fun b _ _ hb ho => by rw [if_pos hb]; exact ho).upTo (by omega)).low hlow
      · have e2 : (bbOf ps).pairs = refL ps[ps.length - 1] := by unfold bbOf; rw [hpl]
        rw [e2]
        exact ((hI22.keep fun b _ h1 _ h3 => hk25 b (by omega) h3).upTo (by omega)).low (by omega)
      · exact .yes ⟨hps, fun j hj => hst5 j hj, by rw [hpl]; exact hA⟩
    · exact cond_not (fun _ => bb_no hE022 (hb25.ext hE22) (by omega) fun hA => hno (by have := hA.last; rwa [hpl] at this)) (fun ht => by cases ht)


set_option maxHeartbeats 4000000 in
theorem boBuild_ok {w : World} {s : Sl} {ps : List Prob} (h : R w s ps) (hs : ∀ q ∈ ps, SmallP q) (hps : PsOk ps) :
    Calls Tryz.prog F.s_boBuild #[s.v] w (Ret [.agg [.sl, .sl, .sl], .at .bool] fun (a b c : Sl) (ok : Bool) w' => BbIs w ps a b c ok w') := by
  refine C_s_boBuild ?_
  unfold V_s_boBuild
  refine NEW_intro fun p2 w1 hp2 hs1 hE1 hb1 => ?_
  refine NEW_ST (one3 (⟨none, 0, 0⟩ : Sl) (⟨none, 0, 0⟩ : Sl) (⟨none, 0, 0⟩ : Sl)) rfl fun p4 w4 hp4 hE4 hb4 => ?_

  have hE04 := hE1.trans hE4
  have hb24 := hb1.ext hE4
  have hne24 : p2.block ≠ p4.block := by omega

  have hz04 := hE04.size_le
  have hlt4 := hb4.lt
  have hl7 := hps.1
  have hg : ∀ j (hj : j < ps.length), PGood ps[j] := fun j hj => (hps.2 _ (List.getElem_mem hj)).1
  have hdg : ∀ j (hj : j < ps.length), ps[j].degree = ps[0].degree := fun j hj => (hps.2 _ (List.getElem_mem hj)).2 (by omega)
  rw [h.len]
  refine ⟨IN ps.length (BuildS w p2 p4 w4.heap.size ps), MN ps.length, IN_zero ⟨hE04, Nat.le_refl _, hb24, ⟨⟨none, 0, 0⟩, ⟨none, 0, 0⟩, fun _ => 0, hb4, OutPS.nil _ _ _ _, InB.nil _ _ _ _ _⟩, fun j hj => by omega⟩, ?_⟩
  rintro _ w5 ⟨i, rfl, hi, hB5⟩
  intros
  obtain ⟨hE5, hz5, hb25, ⟨s1, s2, own, hb45, hO5, hI5⟩, hst5⟩ := hB5
  refine cond_dec (fun hlt => ?_) (fun hge => ?_)
  · have hi' : i < ps.length := by omega
    refine slr_ixP h hi' fun px z u hP0 hc0 => LD_pcells (fun j v hv => hE5.cell (hc0 j v hv)) ?_
    have hP := hP0.ext hE5
    refine NEW_ST (one4p _ _ _ _) rfl fun p6 w7 hp6 hE7 hb6 => ?_
    intro w8 hE8 _
    have hE58 := hE7.trans hE8
    have hE08 := hE5.trans hE58
    have hb48 := hb45.ext hE58
    have hb28 := hb25.ext hE58
    have hb68 := hb6.ext hE8
    have hO8 := hO5.ext hE58
    have hI8 := hI5.ext hE58
    have hP8 := hP.ext hE58
    have hz58 := hE58.size_le
    have hn4 : ¬ oB s1 p4.block := fun hh => by have := (hO5.blk hh).2.1; omega
    refine ⟨oB s1, hn4, LD_bs0 hb48 (LD_iiss hb68 ⟨Chg.refl _ _, ?_⟩)⟩
    refine call (boOwn_ok hP8 (hs _ (List.getElem_mem hi'))) ?_
    rintro _ _ z9 u9 w9 ⟨rfl, rfl, hE9, mid, hi9, hF⟩
    refine ⟨.of_ext hE9, ?_⟩
    refine RUN_lit1 (α := PRec) slt_prob ⟨ps[i].labels, ps[i].degree, z9, u9⟩ rfl (by decide) fun y w10 hE10 hO10 => ⟨.of_ext (hE9.trans hE10), ?_⟩
    have hz9 := hE9.size_le
    have hz10 := hE10.size_le
    have htl : (ps.take i).length = i := by rw [List.length_take]; omega
    refine RUN_append_prob (top := w5.heap.size) hO8 hz58 (by omega) (hE9.trans hE10) (hF.ext hE10) (Nat.le_refl _) hP.labels hP.degree (by omega) hO10 fun s11 w11 own11 hO11 hag hs11 hblk => ?_
    have hC11 : Chg w8 w11 (oB s1) := (Chg.of_ext (hE9.trans hE10)).trans (.of_step hs11 fun k hk => hk)
    refine ⟨hC11, ?_⟩
    have hz11 := hs11.size
    have hE011 : Ext w w11 := hC11.ext0 hE08 fun k hk => by have := (hO5.blk hk).2.1; omega
    have hb411 := hb48.chg hC11 hn4
    have hn2 : ¬ oB s1 p2.block := fun hh => by have := (hO5.blk hh).2.1; have := hb24.lt; omega
    have hb211 := hb28.chg hC11 hn2
    have hn6 : ¬ oB s1 p6.block := fun hh => by have := (hO5.blk hh).2.2.1; omega
    have hb611 := hb68.chg hC11 hn6
    have hI11 : InB w4.heap.size w11.heap.size own11 0 w11 s2 ((mapsOf ps).take (i - 1)) := ((hI8.away hC11 fun b hb _ _ hD => by have := (hO5.blk hD).1; omega).reown fun b _ _ h2 h3 => by rw [hag b (by omega)]; exact h3).upTo (by omega)
    rw [← List.take_succ_eq_append_getElem hi'] at hO11
    refine ST_box1 hb411 (by simp) rfl fun w12 hz12 hk12 hX12 hb412 => ?_
    have hE012 := hX12 _ hE011 (by omega)
    have hb212 := hb211.of_block (hk12 _ hne24)
    have hb612 := hb611.of_block (hk12 _ (by omega))
    have hO12 : OutPS w4.heap.size w12.heap.size own11 w12 s11 (ps.take (i + 1)) := by
      rw [hz12]
      exact hO11.keep fun b _ h1 _ _ => hk12 b (by omega)
    have hI12 : InB w4.heap.size w12.heap.size own11 0 w12 s2 ((mapsOf ps).take (i - 1)) := by
      rw [hz12]
      exact hI11.keep fun b _ h1 _ _ => hk12 b (by omega)
    refine cond_eq (fun he0 => ?_) (fun hne0 => ?_)
    · have h0 : i = 0 := by have : (i : Int) = 0 := he0; omega
      subst h0
      exact IN_next h.le hi' ⟨hE012, by omega, hb212, ⟨s11, s2, own11, hb412, hO12, hI12⟩, fun j hj => by omega⟩
    · have hpos : 0 < i := by
        rcases Nat.eq_zero_or_pos i with h0 | h0
        · subst h0; exact absurd rfl hne0
        · exact h0
      obtain ⟨j, rfl⟩ : ∃ j, i = j + 1 := ⟨i - 1, by omega⟩
      have hj' : j < ps.length := by omega
      have e1 : IntKind.i64.wrap (((j + 1 : Nat) : Int) - 1) = (j : Int) := by rw [wrap_of (by omega) (by omega)]; omega
      rw [e1]
      generalize hii : j + 1 = i at *
      refine slr_ixP (h.ext hE012) hj' fun q1 z1 u1 hP1 hc1 => LD_pcells hc1 ?_
      refine call (sEliminateRound_ok hP1) ?_
      rintro xl xd zr ur a1 a2 bb w13 ⟨hE13, hr⟩
      refine NEW_ST (one4p _ _ _ _) rfl fun p7 w15 hp7 hE15 hb7 => ?_
      have hE1215 := hE13.trans hE15
      have hE015 := hE012.trans hE1215
      have hb215 := hb212.ext hE1215
      have hpj : pAt ps j = ps[j] := pAt_get hj'
      have hpi : pAt ps i = ps[i] := pAt_get hi'
      rcases hr with ⟨rfl, hfw, rfl, rfl, hQ⟩ | ⟨rfl, hnf⟩
      · have hfew : rdFew ps[j] := hfw.2
        have hQr := hQ.ext hE15
        refine cond_not (fun hf => by cases hf) (fun _ => LD_iiss hb7 (LD_iiss (hb612.ext hE1215) ?_))
        have hgr : PGood (roundP ps[j]) := made_round (hg j hj') hfew
        have hdeg : (roundP ps[j]).degree = ps[i].degree := by rw [round_deg, hdg j hj', hdg i hi']
        have hP15 : RProb w15 z u ps[i] := hP0.ext hE015
        refine call (sLabelMapBetween_ok hQr.prob hP15 hgr (hg i hi') hdeg (small_round (hg j hj') hfew)) ?_
        rintro r ok w17 ⟨hE17, hm⟩
        have hz17 := hE17.size_le
        have hz1215 := hE1215.size_le
        have hE017 := hE015.trans hE17
        have hb217 := hb215.ext hE17
        cases hmp : mapPQ (roundP ps[j]) ps[i] with
        | none =>
          rw [hmp] at hm
          simp only at hm
          subst hm
          refine cond_not (fun _ => bb_no hE017 hb217 (by omega) fun hA => ?_) (fun ht => by cases ht)
          obtain ⟨_, f, hf⟩ := hA.step j (by omega)
          rw [hii, hpj, hpi, hmp] at hf
          cases hf
        | some f =>
          rw [hmp] at hm
          obtain ⟨rfl, hOf⟩ := hm
          refine cond_not (fun hf => by cases hf) (fun _ => ?_)
          have hE1217 := hE1215.trans hE17
          refine LD_bs1 (hb412.ext hE1217) ?_
          refine RUN_lit1 (α := Sl) slt_rows r rfl (by decide) fun y18 w18 hE18 hO18 => ?_
          have hz18 := hE18.size_le
          have hI15 : InB w4.heap.size w15.heap.size own11 0 w15 s2 ((mapsOf ps).take (i - 1)) := (hI12.ext hE1215).upTo (by omega)
          have hml : ((mapsOf ps).take (i - 1)).length ≤ 7 := by rw [List.length_take, mapsOf_len]; omega
          refine RUN_append_map (top := w15.heap.size) hI15 (Nat.le_refl _) (by omega) (hE17.trans hE18) (hOf.ext hE18) (map_row hgr (hg i hi') hmp) (by omega) hO18 fun s20 w20 hI20 hs20 => ?_
          have hz20 := hs20.size
          have hC20 : Chg w18 w20 (oB s2) := .of_step hs20 fun k hk => hk
          have hE1218 := hE1217.trans hE18
          have hb4n : ¬ oB s2 p4.block := fun hh => by have := (hI12.blk hh).2.1; omega
          have hb2n : ¬ oB s2 p2.block := fun hh => by have := (hI12.blk hh).2.1; have := hb24.lt; omega
          have hb420 := (hb412.ext hE1218).chg hC20 hb4n
          have hb220 := (hb212.ext hE1218).chg hC20 hb2n
          have hE020 : Ext w w20 := hC20.ext0 (hE012.trans hE1218) fun k hk => by have := (hI12.blk hk).2.1; omega
          have hO20 : OutPS w4.heap.size w20.heap.size (fun b => if b < w15.heap.size then own11 b else 0) w20 s11 (ps.take (i + 1)) := ((hO12.ext hE1218).away hC20 fun b hb _ _ hD => by have := (hI12.blk hD).1; omega).grow (fun b _ hb => by rw [if_pos (by omega)]) (by omega)
          refine ST_box1 hb420 (by simp) rfl fun w21 hz21 hk21 hX21 hb421 => ?_
          have em : (mapsOf ps).take (i - 1) ++ [f] = (mapsOf ps).take i := by
            have e2 := mapsOf_take (ps := ps) (i := j) (by omega)
            have e3 : mapAt ps j = f := by unfold mapAt; rw [hii, hpj, hpi, hmp]; rfl
            rw [e3, hii] at e2
            rw [e2]
            congr 2
            omega
          rw [em] at hI20
          refine IN_next h.le hi' ⟨hX21 _ hE020 (by omega), by omega, hb220.of_block (hk21 _ hne24), ⟨s11, s20, (fun b => if b < w15.heap.size then own11 b else 0), hb421, ?_, ?_⟩, fun j2 hj2 => ?_⟩
          · rw [hz21]
            exact hO20.keep fun b _ h1 _ _ => hk21 b (by omega)
          · rw [hz21]
            exact hI20.keep fun b _ h1 _ _ => hk21 b (by omega)
          · by_cases hjj : j2 = j
            · subst hjj
              refine ⟨by rw [hpj]; exact hfew, f, ?_⟩
              rw [hii, hpj, hpi, hmp]
            · exact hst5 j2 (by omega)
      · refine cond_not (fun _ => bb_no hE015 hb215 (by omega) fun hA => ?_) (fun ht => by cases ht)
        have hsj := hA.step j (by omega)
        unfold stepOk at hsj
        rw [hpj] at hsj
        exact hnf ⟨hg j hj', hsj.1⟩
  · have : i = ps.length := by omega
    subst this
    rw [List.take_length] at hO5
    have hlast : ps.length - 1 < ps.length := by omega
    have e1 : IntKind.i64.wrap ((ps.length : Int) - 1) = ((ps.length - 1 : Nat) : Int) := by rw [wrap_of (by omega) (by omega)]; omega
    rw [e1]
    have hpl : pAt ps (ps.length - 1) = ps[ps.length - 1] := pAt_get hlast
    refine slr_ixP (h.ext hE5) hlast fun q1 z1 u1 hP1 hc1 => LD_pcells hc1 ?_
    refine call (sRefusalOfZero_ok hP1 (hs _ (List.getElem_mem hlast)) (hg _ hlast)) ?_
    rintro r ok w22 ⟨hE22, hr⟩
    have hE022 := hE5.trans hE22
    have hz22 := hE22.size_le
    rcases hr with ⟨rfl, hA, hM⟩ | ⟨rfl, hno⟩
    · refine cond_not (fun hf => by cases hf) (fun _ => ?_)
      have hI22 : InB w5.heap.size w22.heap.size (fun b => if b < w5.heap.size then own b else 1) 1 w22 r (refL ps[ps.length - 1]) := InB.of hM fun b hb _ => by rw [if_neg (by omega)]
      refine ST_box1 (hb45.ext hE22) (by simp) rfl fun w24 hz24 hk24 hX24 hb24' => LD_box3 hb24' ?_
      refine ST_all ((hb25.ext hE22).of_block (hk24 _ hne24)) (one3 _ _ _) rfl fun w25 hs25 hz25 hb25' => LD_box3 hb25' ?_
      have hlt2 := hb24.lt
      have hk25 : ∀ b, w4.heap.size ≤ b → b < w22.heap.size → w25.heap[b]? = w22.heap[b]? := fun b h1 h2 => by
        rw [hs25.block b (by omega) (by intro he; cases he; omega), hk24 b (by omega)]
      have hlow : w.heap.size ≤ w4.heap.size := hE04.size_le
      refine ⟨hs25.ext0 (hX24 _ hE022 (by omega)) fun k hk => by cases hk; omega, bbOf ps, ⟨fun b => if b < w5.heap.size then own b else 1, ?_, ?_, ?_⟩, ?_⟩
      · exact (((hO5.ext hE22).keep fun b _ h1 _ h3 => hk25 b h1 h3).grow (own' := fun b => if b < w5.heap.size then own b else 1) (fun b _ hb => by rw [if_pos hb]) (by omega)).low hlow
      · have hm : (mapsOf ps).take (ps.length - 1) = mapsOf ps := List.take_of_length_le (by rw [mapsOf_len]; exact Nat.le_refl _)
        rw [hm] at hI5
        exact ((((hI5.ext hE22).keep fun b _ h1 _ h3 => hk25 b h1 h3).reown (own' := fun b => if b < w5.heap.size then own b else 1) fun b _ _ hb ho => by rw [if_pos hb]; exact ho).upTo (by omega)).low hlow
      · have e2 : (bbOf ps).pairs = refL ps[ps.length - 1] := by unfold bbOf; rw [hpl]
        rw [e2]
        exact ((hI22.keep fun b _ h1 _ h3 => hk25 b (by omega) h3).upTo (by omega)).low (by omega)
      · exact .yes ⟨hps, fun j hj => hst5 j hj, by rw [hpl]; exact hA⟩
    · exact cond_not (fun _ => bb_no hE022 (hb25.ext hE22) (by omega) fun hA => hno (by have := hA.last; rwa [hpl] at this)) (fun ht => by cases ht)



end Go.Proofs.YtndebacmnpghkaaGreat
end

section
/- CutBound, both sides. -/
namespace Go.Proofs.YtndebacmnpghkaaGreat
open Go.GX Go.RowKit
set_option maxRecDepth 100000

/-- An answer that is a bound: G if A holds, else none. -/
def GbIs (w : World) (A : Prop) (G : Bnd) (a b c : Sl) (ok : Bool) (w' : World) : Prop := Ext w w' ∧ ∃ B, OutB w.heap.size w'.heap.size w' a b c B ∧ AnsG A G noB B ok

theorem gb_no {w w' : World} {p2 : Addr} {A : Prop} {G : Bnd} (hE : Ext w w') (hb : Box w' p2 T.t_i_Bound [.slice none 0 0, .slice none 0 0, .slice none 0 0]) (hp : w.heap.size ≤ p2.block) (hno : ¬ A) : GX.ST p2 0 [.slice none 0 0, .slice none 0 0, .slice none 0 0] w' fun w'' => LD [.sl, .sl, .sl] p2 w'' fun (a : Sl) (b : Sl) (c : Sl) => GbIs w A G a b c false w'' :=
  ST_all hb (vs := [(⟨none, 0, 0⟩ : Sl).v, (⟨none, 0, 0⟩ : Sl).v, (⟨none, 0, 0⟩ : Sl).v]) (one3 _ _ _) rfl fun w'' hs _ hb'' => LD_box3 hb'' ⟨hs.ext0 hE fun k hk => by cases hk; omega, noB, OutB.none _ _ _, .no hno⟩

theorem gb_fin {w w4 w9 : World} {p2 : Addr} {ps : List Prob} {A : Prop} {a b c : Sl} {ok : Bool} {l : List Value} (hE : Ext w w4) (hb : Box w4 p2 T.t_i_Bound l) (hp : w.heap.size ≤ p2.block) (hl : l.length = 3) (h : BbIs w4 ps a b c ok w9) (hA : A ↔ BbAsked ps) : GX.ST p2 0 [a.v, b.v, c.v] w9 fun w'' => LD [.sl, .sl, .sl] p2 w'' fun (a : Sl) (b : Sl) (c : Sl) => GbIs w A (bbOf ps) a b c ok w'' := by
  obtain ⟨hE9, B, hO, hG⟩ := h
  have hlt := hb.lt
  have hz := hE.size_le
  refine ST_all (hb.ext hE9) (one3 _ _ _) (by simp [hl]) fun w'' hs hz'' hb'' => LD_box3 hb'' ⟨hs.ext0 (hE.trans hE9) fun k hk => by cases hk; omega, B, ?_, ?_⟩
  · have h1 : OutB w4.heap.size w9.heap.size w'' a b c B := hO.keep fun b h1 h2 h3 => hs.block b (by omega) (by intro he; cases he; omega)
    have h2 := h1.low hz
    rw [← hz''] at h2
    exact h2
  · exact ⟨hG.ok.trans hA.symm, fun ha => hG.val (hA.1 ha), fun ha => hG.non fun hh => ha (hA.2 hh)⟩

theorem PsOk.take {ps : List Prob} (h : PsOk ps) {k : Nat} (hk : k < ps.length) : PsOk (ps.take (k + 1)) := by
  have hl := h.1
  refine ⟨by rw [List.length_take]; omega, fun q hq => ⟨(h.2 q (List.mem_of_mem_take hq)).1, fun h0 => ?_⟩⟩
  rw [(h.2 q (List.mem_of_mem_take hq)).2 (by omega)]
  simp

/-- What is asked of a bound that is cut. -/
structure CbAsked (B : Bnd) (k : Int) : Prop where
  ok : PsOk B.ps
  right : Right B
  lo : 0 ≤ k
  hi : k < B.ps.length
  cut : BbAsked (B.ps.take (k.toNat + 1))
def cbOf (B : Bnd) (k : Int) : List Prob := B.ps.take (k.toNat + 1)

theorem CutBound_ok {w : World} {a b c : Sl} {B : Bnd} {k : Int} (h : RBnd w a b c B) (hs : SmallB B) :
    Calls Tryz.prog F.i_CutBound #[.agg #[a.v, b.v, c.v], .int .i64 k] w (Ret [.agg [.sl, .sl, .sl], .at .bool] fun (x y z : Sl) (ok : Bool) w' => GbIs w (CbAsked B k) (bbOf (cbOf B k)) x y z ok w') := by
  refine C_i_CutBound ?_
  unfold V_i_CutBound
  refine NEW_intro fun pb w1 hp1 hs1 hE1 hb1 => NEW_intro fun p4 w2 hp4 hs2 hE2 hb4 => ?_
  have hE12 := hE1.trans hE2
  have hz1 := hE1.size_le
  have hb12 := hb1.ext hE2
  refine LD_box3 hb12 ?_
  have h2 := h.ext hE12
  refine call (BoundOf_ok h2 hs) ?_
  rintro n ok w3 ⟨hA, hE3⟩
  have hE03 := hE12.trans hE3
  have hb43 := hb4.ext hE3
  refine cond_not (fun hf => gb_no hE03 hb43 (by omega) fun hc => ?_) (fun ht => ?_)
  · rw [hA.ok.2 ⟨hc.ok, hc.right⟩] at hf; cases hf
  · have hg := hA.ok.1 ht
    have hn := hA.val hg
    subst hn
    have hlen := hg.2.len
    refine call (within_ok _ _ _ _) ?_
    rintro _ _ ⟨rfl, rfl⟩
    refine cond_not (fun hf => gb_no hE03 hb43 (by omega) fun hc => ?_) (fun ht2 => ?_)
    · have h1 := hc.lo
      have h3 := hc.hi
      simp only [inR, Bool.and_eq_false_iff, decide_eq_false_iff_not] at hf
      omega
    · simp only [inR, Bool.and_eq_true, decide_eq_true_eq] at ht2
      obtain ⟨h0, h1⟩ := ht2
      obtain ⟨j, rfl⟩ : ∃ j : Nat, k = j := ⟨k.toNat, by omega⟩
      have hj : j < B.ps.length := by omega
      have hl7 := hg.1.1
      refine LD_bs0 (hb12.ext hE3) ?_
      have e1 : IntKind.i64.wrap ((j : Int) + 1) = ((j + 1 : Nat) : Int) := by rw [wrap_of (by omega) (by omega)]; omega
      rw [e1]
      refine ((h2.ext hE3).ps).take (i := j + 1) (by omega) rfl fun s' hs' => ?_
      refine call (BuildBound_ok hs' fun q hq => hs.ps q (List.mem_of_mem_take hq)) ?_
      intro x y z ok2 w9 hB
      exact gb_fin hE03 hb43 (by omega) rfl hB ⟨fun hc => hc.cut, fun hc => ⟨hg.1, hg.2, h0, by omega, hc⟩⟩

theorem boGood_ok {w : World} {a b c : Sl} {B : Bnd} (h : RBnd w a b c B) :
    Calls Tryz.prog F.s_boGood #[.agg #[a.v, b.v, c.v]] w (Ret [.at .bool] fun (ok : Bool) w' => (ok = true ↔ PsOk B.ps ∧ Right B) ∧ Ext w w') := by
  refine C_s_boGood ?_
  unfold V_s_boGood
  refine NEW_intro fun pc w2 hp2 hs2 hE hc => LD_bs0 hc ?_
  replace h := h.ext hE
  refine call (boTwo_ok h.ps) ?_
  rintro x w3 ⟨hx, hE3⟩
  replace hE := hE.ext hE3
  replace h := h.ext hE3
  replace hc := hc.ext hE3
  refine cond_b (fun ht => LD_box3 hc ?_) (fun hf => ⟨⟨(fun ht => by cases ht), (fun hA => by rw [hx.2 hA.1] at hf; cases hf)⟩, hE⟩)
  have hp := hx.1 ht
  refine call (boRight_ok h hp) ?_
  rintro y w4 ⟨hy, hE4⟩
  exact ⟨hy.trans ⟨fun hr => ⟨hp, hr⟩, fun hA => hA.2⟩, hE.trans hE4⟩

theorem sCutBound_ok {w : World} {a b c : Sl} {B : Bnd} {k : Int} (h : RBnd w a b c B) (hs : SmallB B) :
    Calls Tryz.prog F.s_CutBound #[.agg #[a.v, b.v, c.v], .int .i64 k] w (Ret [.agg [.sl, .sl, .sl], .at .bool] fun (x y z : Sl) (ok : Bool) w' => GbIs w (CbAsked B k) (bbOf (cbOf B k)) x y z ok w') := by
  refine C_s_CutBound ?_
  unfold V_s_CutBound
  refine NEW_intro fun pb w1 hp1 hs1 hE1 hb1 => NEW_intro fun p4 w2 hp4 hs2 hE2 hb4 => ?_
  have hE12 := hE1.trans hE2
  have hz1 := hE1.size_le
  have hb12 := hb1.ext hE2
  refine LD_box3 hb12 ?_
  have h2 := h.ext hE12
  refine call (boGood_ok h2) ?_
  rintro ok w3 ⟨hA, hE3⟩
  have hE03 := hE12.trans hE3
  have hb43 := hb4.ext hE3
  refine cond_not (fun hf => gb_no hE03 hb43 (by omega) fun hc => ?_) (fun ht => ?_)
  · rw [hA.2 ⟨hc.ok, hc.right⟩] at hf; cases hf
  · have hg := hA.1 ht
    have hlen := hg.2.len
    have hl7 := hg.1.1
    refine LD_bs0 (hb12.ext hE3) ?_
    have e0 : IntKind.i64.wrap ((a.len : Int) - 1) = ((B.ps.length - 1 : Nat) : Int) := by rw [h.ps.len, wrap_of (by omega) (by omega)]; omega
    rw [e0]
    refine call (l1In_ok _ _ _ _) ?_
    rintro _ _ ⟨rfl, rfl⟩
    refine cond_not (fun hf => gb_no hE03 hb43 (by omega) fun hc => ?_) (fun ht2 => ?_)
    · have h1 := hc.lo
      have h3 := hc.hi
      simp only [inR, Bool.and_eq_false_iff, decide_eq_false_iff_not] at hf
      omega
    · simp only [inR, Bool.and_eq_true, decide_eq_true_eq] at ht2
      obtain ⟨h0, h1⟩ := ht2
      obtain ⟨j, rfl⟩ : ∃ j : Nat, k = j := ⟨k.toNat, by omega⟩
      have hj : j < B.ps.length := by omega
      refine LD_bs0 (hb12.ext hE3) ?_
      have e1 : IntKind.i64.wrap ((j : Int) + 1) = ((j + 1 : Nat) : Int) := by rw [wrap_of (by omega) (by omega)]; omega
      rw [e1]
      refine ((h2.ext hE3).ps).take (i := j + 1) (by omega) rfl fun s' hs' => ?_
      refine call (boBuild_ok hs' (fun q hq => hs.ps q (List.mem_of_mem_take hq)) (hg.1.take hj)) ?_
      intro x y z ok2 w9 hB
      exact gb_fin hE03 hb43 (by omega) rfl hB ⟨fun hc => hc.cut, fun hc => ⟨hg.1, hg.2, h0, by omega, hc⟩⟩

end Go.Proofs.YtndebacmnpghkaaGreat
end

section
/- JoinBounds, both sides: equal problems, slices.Concat at problems. -/
namespace Go.Proofs.YtndebacmnpghkaaGreat
open Go.GX Go.RowKit
set_option maxRecDepth 100000

/-! ### Equal problems -/

theorem prSameLists_ok {w : World} {s t : Sl} {L M : List (List Int)} (h : R w s L) (h' : R w t M) :
    Calls Tryz.prog F.s_prSameLists #[s.v, t.v] w (Ret [.at .bool] fun (x : Bool) w' => (x = true ↔ L = M) ∧ Ext w w') := by
  refine C_s_prSameLists ?_
  unfold V_s_prSameLists
  rw [h.len, h'.len]
  refine cond_ne (fun hne => ⟨⟨(fun ht => by cases ht), (fun he => absurd (by rw [he]) hne)⟩, Ext.refl _⟩) (fun heq => ?_)
  have hl : L.length = M.length := by have : ((L.length : Nat) : Int) = (M.length : Nat) := heq; omega
  refine ⟨IN L.length fun i w' => Ext w w' ∧ L.take i = M.take i, MN L.length, IN_zero ⟨Ext.refl _, by simp⟩, ?_⟩
  rintro _ w1 ⟨i, rfl, hi, hE1, hI⟩
  intros
  refine cond_dec (fun hlt => ?_) (fun hge => ?_)
  · have hi' : i < L.length := by omega
    have hi2 : i < M.length := by omega
    refine (h.ext hE1).ixL hi' fun p r hr hc => LD_sl hc ?_
    refine (h'.ext hE1).ixL hi2 fun p' r' hr' hc' => LD_sl hc' ?_
    refine call (l1Same_ok hr.any hr'.any) ?_
    rintro _ w2 ⟨rfl, hE2⟩
    refine cond_not (fun hf => ⟨⟨(fun ht => by cases ht), (fun he => ?_)⟩, hE1.trans hE2⟩) (fun ht => ?_)
    · subst he
      simp at hf
    · have he : L[i] = M[i] := by simpa using ht
      exact IN_next h.le hi' ⟨hE1.trans hE2, by rw [List.take_succ_eq_append_getElem hi', List.take_succ_eq_append_getElem hi2, hI, he]⟩
  · have : i = L.length := by omega
    subst this
    rw [List.take_length, hl, List.take_length] at hI
    exact ⟨⟨fun _ => hI, fun _ => rfl⟩, hE1⟩

theorem equalFunc_ok {w : World} {s t : Sl} {L M : List (List Int)} (h : R w s L) (h' : R w t M) :
    Calls Tryz.prog F.slices_EqualFunc_sl_sl_int_sl_sl_int_sl_int_sl_int #[s.v, t.v, .func (.func F.slices_Equal_sl_int_int) #[] #[]] w (Ret [.at .bool] fun (x : Bool) w' => (x = true ↔ L = M) ∧ Ext w w') := by
  refine C_slices_EqualFunc_sl_sl_int_sl_sl_int_sl_int_sl_int ?_
  unfold V_slices_EqualFunc_sl_sl_int_sl_sl_int_sl_int_sl_int
  rw [h.len, h'.len]
  refine cond_ne (fun hne => ⟨⟨(fun ht => by cases ht), (fun he => absurd (by rw [he]) hne)⟩, Ext.refl _⟩) (fun heq => ?_)
  have hl : L.length = M.length := by have : ((L.length : Nat) : Int) = (M.length : Nat) := heq; omega
  refine ⟨IN L.length fun i w' => Ext w w' ∧ L.take i = M.take i, MN L.length, IN_zero ⟨Ext.refl _, by simp⟩, ?_⟩
  rintro _ w1 ⟨i, rfl, hi, hE1, hI⟩
  intros
  refine cond_dec (fun hlt => ?_) (fun hge => ?_)
  · have hi' : i < L.length := by omega
    have hi2 : i < M.length := by omega
    refine (h.ext hE1).ixL hi' fun p r hr hc => LD_sl hc ?_
    refine (h'.ext hE1).ixL hi2 fun p' r' hr' hc' => LD_sl hc' ?_
    refine callv (CALLV_mk (by kernel_rfl) (equal_ok hr.any hr'.any)) ?_
    rintro _ w2 ⟨rfl, hE2⟩
    refine cond_not (fun hf => ⟨⟨(fun ht => by cases ht), (fun he => ?_)⟩, hE1.trans hE2⟩) (fun ht => ?_)
    · subst he
      simp at hf
    · have he : L[i] = M[i] := by simpa using ht
      exact IN_next h.le hi' ⟨hE1.trans hE2, by rw [List.take_succ_eq_append_getElem hi', List.take_succ_eq_append_getElem hi2, hI, he]⟩
  · have : i = L.length := by omega
    subst this
    rw [List.take_length, hl, List.take_length] at hI
    exact ⟨⟨fun _ => hI, fun _ => rfl⟩, hE1⟩

theorem sameRows_ok {w : World} {s t : Sl} {L M : List (List Int)} (h : R w s L) (h' : R w t M) :
    Calls Tryz.prog F.i_sameProblem_1 #[s.v, t.v] w (Ret [.at .bool] fun (x : Bool) w' => (x = true ↔ L = M) ∧ Ext w w') := by
  refine C_i_sameProblem_1 ?_
  unfold V_i_sameProblem_1
  refine call (equalFunc_ok h h') ?_
  rintro x w1 ⟨h1, h2⟩
  exact ⟨h1, h2⟩

theorem prob_eq {p q : Prob} : p = q ↔ p.labels = q.labels ∧ p.degree = q.degree ∧ p.nodes = q.nodes ∧ p.edges = q.edges := by
  cases p; cases q; simp

theorem prSame_ok {w : World} {c d c' d' : Sl} {p q : Prob} (h : RProb w c d p) (h' : RProb w c' d' q) :
    Calls Tryz.prog F.s_prSame #[.agg #[.int .i64 p.labels, .int .i64 p.degree, c.v, d.v], .agg #[.int .i64 q.labels, .int .i64 q.degree, c'.v, d'.v]] w (Ret [.at .bool] fun (x : Bool) w' => (x = true ↔ p = q) ∧ Ext w w') := by
  refine C_s_prSame ?_
  unfold V_s_prSame
  refine NEW_intro fun pp w1 hp1 hs1 hE1 hb1 => NEW_intro fun pq w2 hp2 hs2 hE2 hb2 => ?_
  have hE := hE1.trans hE2
  have hb12 := hb1.ext hE2
  replace h := h.ext hE
  replace h' := h'.ext hE
  have no : ∀ {w' : World}, Ext w w' → p ≠ q → ((false = true ↔ p = q) ∧ Ext w w') := fun hx hn => ⟨⟨(fun ht => by cases ht), (fun he => absurd he hn)⟩, hx⟩
  refine LD_bi0 hb12 (LD_bi0 hb2 (cond_eq (fun h1 => ?_) (fun hn => no hE fun he => hn (by rw [he]))))
  refine LD_bi1 hb12 (LD_bi1 hb2 (cond_eq (fun h2 => ?_) (fun hn => no hE fun he => hn (by rw [he]))))
  refine LD_bs2 hb12 (LD_bs2 hb2 ?_)
  refine call (prSameLists_ok h.nodes h'.nodes) ?_
  rintro x w3 ⟨hx, hE3⟩
  replace hE := hE.ext hE3
  replace h := h.ext hE3
  replace h' := h'.ext hE3
  replace hb12 := hb12.ext hE3
  replace hb2 := hb2.ext hE3
  refine cond_b (fun ht => ?_) (fun hf => no hE fun he => by rw [hx.2 (by rw [he])] at hf; cases hf)
  have h3 := hx.1 ht
  refine LD_bs3 hb12 (LD_bs3 hb2 ?_)
  refine call (prSameLists_ok h.edges h'.edges) ?_
  rintro y w4 ⟨hy, hE4⟩
  exact ⟨hy.trans ⟨fun h4 => prob_eq.2 ⟨h1, h2, h3, h4⟩, fun he => by rw [he]⟩, hE.trans hE4⟩

theorem sameProblem_ok {w : World} {c d c' d' : Sl} {p q : Prob} (h : RProb w c d p) (h' : RProb w c' d' q) :
    Calls Tryz.prog F.i_sameProblem #[.agg #[.int .i64 p.labels, .int .i64 p.degree, c.v, d.v], .agg #[.int .i64 q.labels, .int .i64 q.degree, c'.v, d'.v]] w (Ret [.at .bool] fun (x : Bool) w' => (x = true ↔ p = q) ∧ Ext w w') := by
  refine C_i_sameProblem ?_
  unfold V_i_sameProblem
  refine NEW_intro fun pp w1 hp1 hs1 hE1 hb1 => NEW_intro fun pq w2 hp2 hs2 hE2 hb2 => ?_
  have hE := hE1.trans hE2
  have hb12 := hb1.ext hE2
  replace h := h.ext hE
  replace h' := h'.ext hE
  have no : ∀ {w' : World}, Ext w w' → p ≠ q → ((false = true ↔ p = q) ∧ Ext w w') := fun hx hn => ⟨⟨(fun ht => by cases ht), (fun he => absurd he hn)⟩, hx⟩
  refine LD_bi0 hb12 (LD_bi0 hb2 (cond_eq (fun h1 => ?_) (fun hn => no hE fun he => hn (by rw [he]))))
  refine LD_bi1 hb12 (LD_bi1 hb2 (cond_eq (fun h2 => ?_) (fun hn => no hE fun he => hn (by rw [he]))))
  refine LD_bs2 hb12 (LD_bs2 hb2 ?_)
  refine callv (CALLV_mk (by kernel_rfl) (sameRows_ok h.nodes h'.nodes)) ?_
  rintro x w3 ⟨hx, hE3⟩
  replace hE := hE.ext hE3
  replace h := h.ext hE3
  replace h' := h'.ext hE3
  replace hb12 := hb12.ext hE3
  replace hb2 := hb2.ext hE3
  refine cond_b (fun ht => ?_) (fun hf => no hE fun he => by rw [hx.2 (by rw [he])] at hf; cases hf)
  have h3 := hx.1 ht
  refine LD_bs3 hb12 (LD_bs3 hb2 ?_)
  refine callv (CALLV_mk (by kernel_rfl) (sameRows_ok h.edges h'.edges)) ?_
  rintro y w4 ⟨hy, hE4⟩
  exact ⟨hy.trans ⟨fun h4 => prob_eq.2 ⟨h1, h2, h3, h4⟩, fun he => by rw [he]⟩, hE.trans hE4⟩

/-! ### Lists of problems, by their records -/

theorem recs_of {w : World} {s : Sl} {l : List Prob} (h : R w s l) : ∃ rs : List PRec, R w s rs ∧ rs.length = l.length ∧ ∀ j (h1 : j < rs.length) (h2 : j < l.length), RecOf (fun _ => True) w rs[j] l[j] := by
  have hex : ∀ i : Fin l.length, ∃ r : PRec, RecOf (fun _ => True) w r l[i] ∧ ∃ a, s.a = some a ∧ ∀ j v, [Value.int .i64 r.x, .int .i64 r.y, r.z.v, r.u.v][j]? = some v → w.cell? (a.add (i * 4 + j)) = some v := by
    intro i
    obtain ⟨a, cs, ha, hb, hcs, hc⟩ := h.2.2 i l[i] (by simp)
    obtain ⟨z, u, rfl, h1, h2, h3, h4⟩ := hcs
    exact ⟨⟨_, _, z, u⟩, ⟨rfl, rfl, h1, h2, h3, h4⟩, a, ha, fun j v hv => hc j v hv⟩
  obtain ⟨f, hf⟩ := Classical.axiomOfChoice hex
  refine ⟨List.ofFn f, ⟨by rw [List.length_ofFn]; exact h.1, h.2.1, fun i x hx => ?_⟩, List.length_ofFn, fun j h1 h2 => ?_⟩
  · obtain ⟨hi, rfl⟩ := List.getElem?_eq_some_iff.1 hx
    have hi' : i < l.length := by simpa using hi
    obtain ⟨hR, a, ha, hc⟩ := hf ⟨i, hi'⟩
    obtain ⟨a2, cs2, ha2, hb2, hcs2, hc2⟩ := h.2.2 i l[i] (by simp [hi'])
    rw [ha] at ha2; cases ha2
    exact ⟨a, _, ha, hb2, by rw [List.getElem_ofFn]; rfl, fun j v hv => hc j v hv⟩
  · rw [List.getElem_ofFn]
    exact (hf ⟨j, h2⟩).1

theorem slt_probs : SlT Tryz.prog T.t_sl_sl_i_Problem T.t_sl_i_Problem 1 24 (.slice none 0 0) := ⟨by kernel_rfl, by kernel_rfl, rfl, by decide⟩

theorem growP_ok {n : Nat} (hn : n ≤ 1048576) (w : World) :
    Calls Tryz.prog F.slices_Grow_sl_i_Problem_i_Problem #[.slice none 0 0, .int .i64 n] w (Ret [.at .sl] fun (r : Sl) w' => Ext w w' ∧ OwnL w' w.heap.size T.t_i_Problem r ([] : List PRec)) := by
  refine C_slices_Grow_sl_i_Problem_i_Problem (s := ⟨none, 0, 0⟩) ?_
  unfold V_slices_Grow_sl_i_Problem_i_Problem
  refine cond_df (by omega) ?_
  have hcap : ∀ {K : Int → World → Prop}, K 0 w → RUN Tryz.prog (.at (.int .i64)) (bsem .cap #[T.t_sl_i_Problem] T.t_int #[(⟨none, 0, 0⟩ : Sl).v]) w K := fun hk => by
    have hu := slt_prob.under
    unfold RUN
    show (match (Builtin.cap_ #[T.t_sl_i_Problem] T.t_int #[.slice none 0 0]).run Tryz.prog w with | .ok v w' => _ | .halt _ _ => False)
    have : (Builtin.cap_ #[T.t_sl_i_Problem] T.t_int #[.slice none 0 0]).run Tryz.prog w = .ok (.int .i64 0) w := by simp [Builtin.cap_, underlying_run hu, goInt]
    rw [this]
    exact hk
  refine hcap ?_
  have e1 : IntKind.i64.wrap ((n : Int) - IntKind.i64.wrap (0 - ((⟨none, 0, 0⟩ : Sl).len : Int))) = n := by
    have e0 : IntKind.i64.wrap (0 - ((⟨none, 0, 0⟩ : Sl).len : Int)) = 0 := by rw [wrap_of (by simp) (by simp)]; rfl
    rw [e0, wrap_of (by omega) (by omega)]; omega
  rw [e1]
  refine cond_dec (fun hpos => ?_) (fun hz => ⟨Ext.refl _, OwnL.nil _ _ _⟩)
  refine hcap ?_
  refine ⟨by simp, by simp, by simp, ?_⟩
  obtain ⟨i, hi, hz0, hsz, hby⟩ := slt_prob.parts
  have hr := run_append_made (P := Tryz.prog) w T.t_sl_i_Problem T.t_int T.t_sl_i_Problem T.t_i_Problem .i64 i (.agg #[.int .i64 0, .int .i64 0, .slice none 0 0, .slice none 0 0]) slt_prob.under (by kernel_rfl) hi hz0 n (by omega) (by rw [hsz]; decide) hn (by rw [hby]; omega)
  show RUN Tryz.prog (.at .sl) (bsem .append #[T.t_sl_i_Problem, T.t_int] T.t_sl_i_Problem #[.slice none 0 0, .int .i64 n]) w _
  unfold RUN
  show (match (Builtin.append_ #[T.t_sl_i_Problem, T.t_int] T.t_sl_i_Problem #[.slice none 0 0, .int .i64 n]).run Tryz.prog w with | .ok v w' => _ | .halt _ _ => False)
  rw [hr]
  have hge := grownCap_ge w n 0 T.t_i_Problem
  have hle := grownCap_le_maxLen w n 0 T.t_i_Problem (by unfold maxLen; omega)
  generalize hzv : (Value.agg #[.int .i64 0, .int .i64 0, .slice none 0 0, .slice none 0 0]) = zv at *
  have hone : zv.cells.size = 4 := by subst hzv; rfl
  have hheap : (w.drew.alloc (.cells (Builtin.zeroCells zv.cells n ++ Builtin.zeroCells zv.cells (grownCap w n 0 T.t_i_Problem - n)) T.t_i_Problem)).heap = w.heap.push (.cells (Builtin.zeroCells zv.cells n ++ Builtin.zeroCells zv.cells (grownCap w n 0 T.t_i_Problem - n)) T.t_i_Problem) := rfl
  have hE : Ext w (w.drew.alloc (.cells (Builtin.zeroCells zv.cells n ++ Builtin.zeroCells zv.cells (grownCap w n 0 T.t_i_Problem - n)) T.t_i_Problem)) := ⟨rfl, rfl, rfl, by rw [hheap]; simp, fun k hk => by rw [hheap]; simp [Array.getElem?_push, Nat.ne_of_lt hk]⟩
  generalize w.drew.alloc (.cells (Builtin.zeroCells zv.cells n ++ Builtin.zeroCells zv.cells (grownCap w n 0 T.t_i_Problem - n)) T.t_i_Problem) = W at *
  generalize hcap' : grownCap w n 0 T.t_i_Problem = c at *
  have fin : SLC ⟨some ⟨w.heap.size, 0, none⟩, n, c⟩ none (some (0 : Int)) 4 fun x => Ext w W ∧ OwnL W w.heap.size T.t_i_Problem x ([] : List PRec) := by
    refine ⟨by simp, by simp, by simp, hE, ?_⟩
    have hc0 : c ≠ 0 := by omega
    simp only [Option.getD_none, Int.toNat_zero, Option.getD_some, Nat.sub_zero, hc0, if_false, Option.map_some, Nat.zero_mul, add_zero']
    have hg : W.heap[w.heap.size]? = some (.cells (Builtin.zeroCells zv.cells n ++ Builtin.zeroCells zv.cells (c - n)) T.t_i_Problem (0, 0)) := by rw [hheap]; exact Array.getElem?_push_size
    refine own_empty (α := PRec) hg hle ?_
    rw [Array.size_append, size_zeroCells, size_zeroCells, hone]
    show n * 4 + (c - n) * 4 = c * 4
    omega
  exact fin

/-- The lists of records one behind the other. -/
theorem concatP_ok {w : World} {s : Sl} {L : List (List PRec)} {m : Nat} (h : R w s L) (hl0 : L.length ≤ 1048576) (hl : m * L.length ≤ 1048576) (hll : ∀ r ∈ L, r.length ≤ m) :
    Calls Tryz.prog F.slices_Concat_sl_i_Problem_i_Problem #[s.v] w (Ret [.at .sl] fun (r : Sl) w' => Ext w w' ∧ OwnL w' w.heap.size T.t_i_Problem r L.flatten) := by
  refine C_slices_Concat_sl_i_Problem_i_Problem ?_
  unfold V_slices_Concat_sl_i_Problem_i_Problem
  rw [h.len]
  have hpl0 : ∀ i, i ≤ L.length → ((L.take i).flatten).length ≤ m * i := by
    intro i
    induction i with
    | zero => simp
    | succ i ih =>
      intro hi
      rw [Nat.mul_succ]
      rw [List.take_succ_eq_append_getElem (by omega), List.flatten_append, List.length_append]
      have := ih (by omega)
      have := hll _ (List.getElem_mem (show i < L.length by omega))
      simp only [List.flatten_cons, List.flatten_nil, List.append_nil]; omega
  have hpl : ∀ i, i ≤ L.length → ((L.take i).flatten).length ≤ 1048576 := fun i hi => by
    have h1 := hpl0 i hi
    have h2 := Nat.mul_le_mul_left m hi
    omega
  refine ⟨IN2 L.length fun i x w' => w = w' ∧ x = ((L.take i).flatten).length, MN2 L.length, IN2_zero ⟨rfl, by simp⟩, ?_⟩
  rintro _ _ _ ⟨i, rfl, hi, rfl, rfl⟩
  intros
  have h1 := hpl i hi
  refine cond_dec (fun hlt => ?_) (fun hge => ?_)
  · have hi' : i < L.length := by omega
    have h2 := hpl (i + 1) (by omega)
    have e2 : ((L.take (i + 1)).flatten).length = ((L.take i).flatten).length + L[i].length := by
      rw [List.take_succ_eq_append_getElem hi', List.flatten_append, List.length_append]; simp only [List.flatten_cons, List.flatten_nil, List.append_nil]
    refine h.ixL hi' fun p r hr hc => LD_sl hc ?_
    rw [hr.len, wrap_of (n := _ + _) (by omega) (by omega)]
    refine cond_df (by omega) (IN2_next (by omega) hi' ⟨rfl, by omega⟩)
  · have : i = L.length := by omega
    subst this
    rw [List.take_length] at h1 ⊢
    refine call (growP_ok (by omega) w) ?_
    rintro r w1 ⟨hE1, hO1⟩
    refine ⟨IN2 L.length fun i (x : Sl) w' => Ext w w' ∧ OwnL w' w.heap.size T.t_i_Problem x (L.take i).flatten, MN2 L.length, IN2_zero ⟨hE1, by simpa using hO1⟩, ?_⟩
    rintro x _ w2 ⟨i, rfl, hi, hE2, hO2⟩
    intros
    refine cond_dec (fun hlt => ?_) (fun hge => ?_)
    · have hi' : i < L.length := by omega
      have h2 := hpl (i + 1) (by omega)
      have e2 : ((L.take (i + 1)).flatten) = ((L.take i).flatten) ++ L[i] := by
        rw [List.take_succ_eq_append_getElem hi', List.flatten_append]; simp
      have e3 := congrArg List.length e2
      rw [List.length_append] at e3
      refine (h.ext hE2).ixL hi' fun p r hr hc => LD_sl hc ?_
      refine RUN_append (α := PRec) slt_prob hO2 hE2.size_le hr.any (by omega) (by unfold maxLen; omega) fun r' w3 hO3 hs3 => ?_
      exact IN2_next (by omega) hi' ⟨hs3.ext0 hE2 (fun k hk => (hO2.blk k hk).1), by rw [e2]; exact hO3⟩
    · have : i = L.length := by omega
      subst this
      exact ⟨hE2, by simpa using hO2⟩

end Go.Proofs.YtndebacmnpghkaaGreat
end
