/- Own texts, merged: Pull1, Pull2, PullEdgeStepWalk, Door. -/
import Derived.Test.YtlmiookpmneicaaGreatM6
import Derived.Test.YtlmiookpmneicaaGreatRows
import Derived.KernelRfl
import Derived.JoinedOf
section
/- Solutions pulled back through the edge step, both sides. -/
namespace Go.Proofs.YtlmiookpmneicaaGreat
open Go.GX Go.RowKit
set_option maxRecDepth 100000

/-! ### In plain words -/

theorem firstC_congr {P P' : List Int → Bool} : ∀ {ls : List (List Int)} {pre : List Int}, (∀ e ∈ prodL ls, P (pre ++ e) = P' (pre ++ e)) → firstC P ls pre = firstC P' ls pre
  | [], pre, h => by
    have := h [] (by simp [prodL])
    rw [List.append_nil] at this
    rw [firstC, firstC, this]
  | l :: ls, pre, h => by
    rw [firstC, firstC]
    have : ∀ m : List Int, (∀ a ∈ m, a ∈ l) → m.findSome? (fun a => firstC P ls (pre ++ [a])) = m.findSome? (fun a => firstC P' ls (pre ++ [a])) := by
      intro m
      induction m with
      | nil => simp
      | cons a m ih =>
        intro hm
        have e1 : firstC P ls (pre ++ [a]) = firstC P' ls (pre ++ [a]) := firstC_congr fun e he => by
          have := h (a :: e) (by simp only [prodL, List.mem_flatMap, List.mem_map]; exact ⟨a, hm a (by simp), e, he, rfl⟩)
          simpa using this
        rw [List.findSome?_cons, List.findSome?_cons, e1, ih fun x hx => hm x (List.mem_cons_of_mem _ hx)]
    exact this l fun a ha => ha

theorem firstC_heads {P : List Int → Bool} : ∀ {ls : List (List Int)} {pre : List Int}, (∀ l ∈ ls, l ≠ []) → (∀ e ∈ prodL ls, P (pre ++ e) = true) → firstC P ls pre = some (pre ++ ls.map (·.headD 0))
  | [], pre, _, h => by
    have := h [] (by simp [prodL])
    rw [List.append_nil] at this
    rw [firstC, if_pos this]; simp
  | l :: ls, pre, hne, h => by
    have hl := hne l (by simp)
    cases l with
    | nil => exact absurd rfl hl
    | cons a l =>
      have e1 : firstC P ls (pre ++ [a]) = some (pre ++ [a] ++ ls.map (·.headD 0)) := firstC_heads (fun m hm => hne m (List.mem_cons_of_mem _ hm)) fun e he => by
        have := h (a :: e) (by simp only [prodL, List.mem_flatMap, List.mem_map]; exact ⟨a, by simp, e, he, rfl⟩)
        simpa using this
      rw [firstC, List.findSome?_cons, e1]
      simp

/-- The labels that a node takes from sets. -/
def pullRow (p : Prob) (S r : List Int) : List Int := if (r.length : Int) = p.degree then (firstC (nodeB p) (listsAt S r) []).getD [] else (listsAt S r).map (·.headD 0)

/-- What is known of a node's labels. -/
structure PullOk (p : Prob) (S r : List Int) : Prop where
  labs : ∀ x ∈ r, 0 ≤ x ∧ x < (S.length : Nat)
  len : r.length ≤ 1000
  some : (r.length : Int) = p.degree → (firstC (nodeB p) (listsAt S r) []).isSome = true

structure SetsOk (S : List Int) : Prop where
  pos : ∀ x ∈ S, ∃ m : Nat, x = m ∧ 1 ≤ m ∧ m < 256

theorem SetsOk.byte {S : List Int} (h : SetsOk S) : ∀ x ∈ S, ∃ m : Nat, x = m ∧ m < 256 := fun x hx => by
  obtain ⟨m, h1, _, h3⟩ := h.pos x hx
  exact ⟨m, h1, h3⟩

theorem labs_ne_nil {m : Nat} (h1 : 1 ≤ m) (h2 : m < 256) : labsOf m ≠ [] := fun he => by
  have hb : ∀ a, m.testBit a = false := fun a => by
    by_cases ha : a < 8
    · cases hh : m.testBit a with
      | false => rfl
      | true =>
        have : ((a : Nat) : Int) ∈ labsOf m := mem_labsOf.2 ⟨a, rfl, ha, hh⟩
        rw [he] at this; cases this
    · have h3 : (2 : Nat) ^ 8 = 256 := by decide
      have h4 : 2 ^ 8 ≤ 2 ^ a := Nat.pow_le_pow_right (by decide) (by omega)
      exact Nat.testBit_lt_two_pow (by omega)
  have : m = 0 := Nat.eq_of_testBit_eq fun i => by rw [hb i]; simp
  omega

theorem lists_ne {S r : List Int} (hS : SetsOk S) (hr : ∀ x ∈ r, 0 ≤ x ∧ x < (S.length : Nat)) : ∀ l ∈ listsAt S r, l ≠ [] := fun l hl => by
  obtain ⟨x, hx, rfl⟩ := List.mem_map.1 hl
  have h1 := hr x hx
  have h2 : x.toNat < S.length := by omega
  obtain ⟨m, hm, hm1, hm2⟩ := hS.pos _ (List.getElem_mem h2)
  have e : S.getD x.toNat 0 = m := by simp [h2, hm]
  rw [e, Int.toNat_natCast]
  exact labs_ne_nil hm1 hm2

theorem listsAt_len (S r : List Int) : (listsAt S r).length = r.length := by simp [listsAt]

/-- The program's choice. -/
theorem pull_choice {p : Prob} {S r : List Int} (hS : SetsOk S) (hr : PullOk p S r) : firstC (fun c => !(decide ((c.length : Int) = p.degree)) || nodeB p c) (listsAt S r) [] = some (pullRow p S r) := by
  unfold pullRow
  by_cases hd : (r.length : Int) = p.degree
  · rw [if_pos hd]
    have h1 := hr.some hd
    rw [firstC_congr (P' := nodeB p) fun e he => by
      have hl : (([] ++ e : List Int).length : Int) = p.degree := by rw [List.nil_append, prodL_len he, listsAt_len]; exact hd
      rw [hl]; simp]
    cases hG : firstC (nodeB p) (listsAt S r) [] with
    | some c => rfl
    | none => rw [hG] at h1; cases h1
  · rw [if_neg hd, firstC_heads (lists_ne hS hr.labs) fun e he => by
      have hl : ¬ (e.length : Int) = p.degree := by rw [prodL_len he, listsAt_len]; exact hd
      rw [List.nil_append]
      simp [hl]]
    simp

theorem pullRow_len {p : Prob} {S r : List Int} (hr : PullOk p S r) : (pullRow p S r).length = r.length := by
  unfold pullRow
  by_cases hd : (r.length : Int) = p.degree
  · rw [if_pos hd]
    have h1 := hr.some hd
    cases hG : firstC (nodeB p) (listsAt S r) [] with
    | some c =>
      obtain ⟨_, e, he, rfl⟩ := firstC_spec hG
      simp only [Option.getD_some]
      rw [prodL_len he, listsAt_len]
    | none => rw [hG] at h1; cases h1
  · rw [if_neg hd, List.length_map, listsAt_len]

theorem two2_mem {c : List Int} {ls : List (List Int)} (h : Two2 (fun x l => x ∈ l) c ls) : ∀ x ∈ c, ∃ l ∈ ls, x ∈ l := by
  induction h with
  | nil => intro x hx; cases hx
  | cons h1 h2 ih =>
    intro x hx
    rcases List.mem_cons.1 hx with rfl | hx
    · exact ⟨_, by simp, h1⟩
    · obtain ⟨l, hl, hxl⟩ := ih x hx
      exact ⟨l, List.mem_cons_of_mem _ hl, hxl⟩

theorem pullRow_labs {p : Prob} {S r : List Int} (hS : SetsOk S) (hr : PullOk p S r) : ∀ x ∈ pullRow p S r, 0 ≤ x ∧ x < 8 := by
  obtain ⟨_, e, he, hce⟩ := firstC_spec (pull_choice hS hr)
  rw [List.nil_append] at hce
  rw [hce]
  intro x hx
  obtain ⟨l, hl, hxl⟩ := two2_mem (mem_prodL.1 he) x hx
  obtain ⟨y, _, rfl⟩ := List.mem_map.1 hl
  obtain ⟨a, rfl, ha, _⟩ := mem_labsOf.1 hxl
  omega

/-! ### The program -/

theorem pullEdge1_ok {w w' : World} {c d t : Sl} {p : Prob} {pp : Addr} {t0 : TypeId} {l : List Int} (h : RProb w c d p) (hs : SmallP p) (hg : PGood p) (hb : Box w pp t0 [.int .i64 p.labels, .int .i64 p.degree, c.v, d.v]) (hE : Ext w w') (hl : R w' t l) (hll : l.length ≤ 1000) :
    CALLV Tryz.prog (.func (.func F.i_pullEdgeStep_1) #[] #[.pointer (some pp)]) #[t.v] w' (Ret [.at .bool] fun (b : Bool) w'' => b = (!(decide ((l.length : Int) = p.degree)) || nodeB p l) ∧ Ext w' w'') := by
  refine CALLV_mk (by kernel_rfl) (C_i_pullEdgeStep_1 ?_)
  unfold V_i_pullEdgeStep_1
  refine LD_bi1 (hb.ext hE) ?_
  rw [hl.len]
  refine cond_ne (fun hne => ⟨?_, Ext.refl _⟩) (fun heq => LD_iiss (hb.ext hE) ?_)
  · have hne' : ¬ (l.length : Int) = p.degree := hne
    simp [hne']
  · have heq' : (l.length : Int) = p.degree := heq
    refine call (node_ok (h.ext hE) hs hg hl (by omega)) ?_
    rintro x w1 ⟨hx, hE1⟩
    refine ⟨?_, hE1⟩
    rw [bool_of hx nodeB_iff]
    simp [heq']

theorem pullEdgeStep_ok {w : World} {c d s t : Sl} {p : Prob} {S : List Int} {L : List (List Int)} (h : RProb w c d p) (hs : SmallP p) (hg : PGood p) (hS : R w s S) (hSo : SetsOk S) (hL : R w t L) (hr : ∀ r ∈ L, PullOk p S r) (hl : L.length ≤ 1048576) :
    Calls Tryz.prog F.i_pullEdgeStep #[.agg #[.int .i64 p.labels, .int .i64 p.degree, c.v, d.v], s.v, t.v] w (Ret [.at .sl, .at .bool] fun (r : Sl) (b : Bool) w' => Ext w w' ∧ b = true ∧ OutM w.heap.size w' r (L.map (pullRow p S))) := by
  refine C_i_pullEdgeStep ?_
  unfold V_i_pullEdgeStep
  refine NEW_intro fun pp w1 hp1 hs1 hE1 hb1 => ?_
  replace h := h.ext hE1
  replace hS := hS.ext hE1
  replace hL := hL.ext hE1
  rw [hL.len]
  refine ⟨IN2 L.length fun i (out : Sl) w' => Ext w1 w' ∧ ∃ ss, RowsD w' w1.heap.size T.t_int T.t_sl_int out ((L.take i).map (pullRow p S)) ss, MN2 L.length, IN2_zero ⟨Ext.refl _, [], by simpa using RowsD.nil _ _ _ _⟩, ?_⟩
  rintro out _ w2 ⟨i, rfl, hi, hE2, ss, hR⟩
  intros
  refine cond_dec (fun hlt => ?_) (fun hge => ?_)
  · have hi' : i < L.length := by omega
    have hri := hr _ (List.getElem_mem hi')
    refine (hL.ext hE2).ixL hi' fun q row hrow hc => LD_sl hc ?_
    refine call (listsOf_ok (hS.ext hE2) hrow.any hSo.byte hri.labs hri.len) ?_
    rintro x w3 ⟨hE3, ss3, hR3⟩
    have h64 : ∀ r ∈ listsAt S L[i], ∀ x ∈ r, I64 x := fun r hr x hx => by
      obtain ⟨y, _, rfl⟩ := List.mem_map.1 hr
      exact labsOf_I64 _ x hx
    have hE13 := hE2.trans hE3
    refine call (firstChoice_ok (P := fun c => !(decide ((c.length : Int) = p.degree)) || nodeB p c) (hR3.rep h64) (by rw [listsAt_len]; exact hri.len) fun e he w' r hE' hr' => pullEdge1_ok (h.ext hE13) hs hg (hb1.ext hE13) hE' hr' (by rw [he, listsAt_len]; exact hri.len)) ?_
    rintro y b w4 ⟨hE4, hm⟩
    rw [pull_choice hSo hri] at hm
    obtain ⟨rfl, hO4⟩ := hm
    refine cond_f rfl ?_
    refine RUN_lit1 (α := Sl) slt_rows y rfl (by decide) fun u w5 hE5 hO5 => ?_
    have hE25 := (hE3.trans hE4).trans hE5
    have hR5 := hR.ext hE25
    have hz2 := hE2.size_le
    have hz3 := hE3.size_le
    have hz5 := hE25.size_le
    have hll : ((L.take i).map (pullRow p S)).length = i := by rw [List.length_map, List.length_take]; omega
    refine RUN_append_rowD slt_rows (by decide) hR5 (by omega) ((hO4.ext hE5).low (by omega)) ((hR.ext hE3).fresh (hO4.ext hE5) (Nat.le_refl _)) hO5 (by omega) (by unfold maxLen; omega) fun s' w6 hR6 hs6 => ?_
    refine IN2_next hL.le hi' ⟨hs6.ext0 (hE2.trans hE25) fun k hk => (hR5.own.blk k hk).1, ss ++ [y], ?_⟩
    rw [map_take_succ hi']
    exact hR6
  · have : i = L.length := by omega
    subst this
    rw [List.take_length] at hR
    refine ⟨hE1.trans hE2, rfl, ⟨⟨ss, hR.low hE1.size_le⟩, fun r hr' x hx => ?_, by simpa using hl, fun r hr' => ?_⟩⟩
    · obtain ⟨l, hl', rfl⟩ := List.mem_map.1 hr'
      have := pullRow_labs hSo (hr l hl') x hx
      unfold I64; omega
    · obtain ⟨l, hl', rfl⟩ := List.mem_map.1 hr'
      rw [pullRow_len (hr l hl')]
      have := (hr l hl').len
      omega

end Go.Proofs.YtlmiookpmneicaaGreat
end

section
/- Solutions pulled back through the edge step: the reference, and what is asked. -/
namespace Go.Proofs.YtlmiookpmneicaaGreat
open Go.GX Go.RowKit
set_option maxRecDepth 100000

/-- Slices that read as lists, apart from the slice that holds them. -/
def AlD (w : World) (s : Sl) (ss : List Sl) (L : List (List Int)) : Prop := ss.length = L.length ∧ ∀ i (h1 : i < ss.length) (h2 : i < L.length), SlR (fun b => ¬ oB s b) w ss[i] L[i]

theorem AlD.ext {w w' : World} {s : Sl} {ss : List Sl} {L : List (List Int)} (h : AlD w s ss L) (hE : Ext w w') : AlD w' s ss L := ⟨h.1, fun i h1 h2 => (h.2 i h1 h2).ext hE⟩

/-- One more row that reads as a list. -/
theorem add_al {w : World} {base : Nat} {s x : Sl} {ss : List Sl} {L : List (List Int)} {xl : List Int} (h : OwnL w base T.t_sl_int s ss) (ha : AlD w s ss L) (hx : SlR (fun b => ¬ oB s b) w x xl) (hb : base ≤ w.heap.size) (hl : L.length < 1048576) {K : Sl → World → Prop}
    (hk : ∀ s' w', OwnL w' base T.t_sl_int s' (ss ++ [x]) → AlD w' s' (ss ++ [x]) (L ++ [xl]) → (∀ w0, Ext w0 w → w0.heap.size ≤ base → Ext w0 w') → K s' w') :
    RUN Tryz.prog (.at .sl) (Instr.buildSlice T.t_sl_sl_int 1 #[(0, x.v)]) w fun (y : Sl) w1 =>
    RUN Tryz.prog (.at .sl) (bsem .append #[T.t_sl_sl_int, T.t_sl_sl_int] T.t_sl_sl_int #[s.v, y.v]) w1 K := by
  have hls := ha.1
  refine RUN_lit1 (α := Sl) slt_rows x rfl (by decide) fun y w1 hE1 hO1 => ?_
  refine RUN_appendF (α := Sl) slt_rows (h.ext hE1) (by have := hE1.size_le; omega) (hO1.rep fun _ _ => trivial).any (by simp; omega) (by simp [maxLen]; omega) fun s' w2 hO2 hs2 hn2 => ?_
  have hst : ∀ {r : Sl} {l : List Int}, SlR (fun b => ¬ oB s b) w r l → SlR (fun b => ¬ oB s' b) w2 r l := fun {r l} hr => by
    refine ((hr.ext hE1).below.stepD hs2 fun b hb he => hb.1 he).weak (fun b hb _ hos => ?_) RepP.pos
    rcases hn2 with h1 | h1
    · exact hb.1 (by unfold oB at hos ⊢; rw [← h1]; exact hos)
    · have := h1 b hos; have := hb.2; omega
  refine hk s' w2 hO2 ⟨by simp; omega, fun i h1 h2 => ?_⟩ fun w0 h0 hz => hs2.ext0 (h0.trans hE1) fun k hk => by have := ((h.ext hE1).blk k hk).1; omega
  by_cases hi : i < ss.length
  · rw [List.getElem_append_left hi, List.getElem_append_left (by omega)]
    exact hst (ha.2 i hi (by omega))
  · simp only [List.length_append, List.length_cons, List.length_nil] at h1 h2
    have : i = ss.length := by omega
    subst this
    rw [List.getElem_append_right (by omega), List.getElem_append_right (by omega)]
    simp only [hls, Nat.sub_self, List.getElem_cons_zero]
    exact hst hx

theorem head_get {l : List Int} (h : 0 < l.length) : l.headD 0 = l[0] := by cases l with | nil => cases h | cons x l => rfl

theorem elPullEdge_ok {w : World} {c d s t : Sl} {p : Prob} {S : List Int} {L : List (List Int)} (h : RProb w c d p) (hg : PGood p) (hS : R w s S) (hSo : SetsOk S) (hL : R w t L) (hr : ∀ r ∈ L, PullOk p S r) (hl : L.length ≤ 1048576) :
    Calls Tryz.prog F.s_elPullEdge #[.agg #[.int .i64 p.labels, .int .i64 p.degree, c.v, d.v], s.v, t.v] w (Ret [.at .sl] fun (r : Sl) w' => Ext w w' ∧ R w' r (L.map (pullRow p S))) := by
  refine C_s_elPullEdge ?_
  unfold V_s_elPullEdge
  refine NEW_intro fun pp w1 hp1 hs1 hE1 hb1 => ?_
  replace h := h.ext hE1
  replace hS := hS.ext hE1
  replace hL := hL.ext hE1
  rw [hL.len]
  have hd := hg.deg
  refine ⟨IN2 L.length fun i (out : Sl) w' => Ext w1 w' ∧ ∃ ss, OwnL w' w1.heap.size T.t_sl_int out ss ∧ AlD w' out ss ((L.take i).map (pullRow p S)), MN2 L.length, IN2_zero ⟨Ext.refl _, [], OwnL.nil _ _ _, by simp [AlD]⟩, ?_⟩
  rintro out _ w2 ⟨i, rfl, hi, hE2, ss, hO2, hA2⟩
  intros
  refine cond_dec (fun hlt => ?_) (fun hge => ?_)
  · have hi' : i < L.length := by omega
    have hri := hr _ (List.getElem_mem hi')
    have hrl := hri.len
    have hz2 := hE2.size_le
    refine (hL.ext hE2).ixL hi' fun q row hrow hc => LD_sl hc ?_
    refine call (coThrough_ok (hS.ext hE2) hrow.any (fun x hx => ?_) (by omega)) ?_
    · have := hri.labs x hx
      exact ⟨x.toNat, by omega, by omega⟩
    rintro a w3 ⟨hE3, hA3⟩
    have hab : ∀ y ∈ L[i].map fun x => S.getD x.toNat 0, ∃ m : Nat, y = m ∧ 1 ≤ m ∧ m < 256 := fun y hy => by
      obtain ⟨z, hz, rfl⟩ := List.mem_map.1 hy
      have := hri.labs z hz
      have hz' : z.toNat < S.length := by omega
      simp only [List.getD_eq_getElem?_getD, List.getElem?_eq_getElem hz', Option.getD_some]
      exact hSo.pos _ (List.getElem_mem hz')
    have ha64 : ∀ y ∈ L[i].map fun x => S.getD x.toNat 0, I64 y := fun y hy => by obtain ⟨m, rfl, _, hm⟩ := hab y hy; unfold I64; omega
    have hRa := (hA3.rep ha64).any
    refine LD_bs2 (hb1.ext (hE2.trans hE3)) ?_
    refine call (elChoice_ok (good := p.nodes) (fun x hx => by obtain ⟨m, h1, _, h3⟩ := hab x hx; exact ⟨m, h1, h3⟩) (by rw [List.length_map]; omega) _ (ch := ⟨none, 0, 0⟩) (pre := []) (by simp; rfl) (h.nodes.ext (hE2.trans hE3)) hRa (D := fun _ => False) (nil_at w3 _)) ?_
    rintro r4 b w4 ⟨hE4, hm⟩
    have e1 : (((L[i].map fun x => S.getD x.toNat 0).drop ([] : List Int).length).map fun x => labsOf x.toNat) = listsAt S L[i] := by simp [listsAt]
    rw [e1] at hm
    have hE24 := hE3.trans hE4
    refine LD_bi1 (hb1.ext (hE2.trans hE24)) ?_
    rw [hrow.len]
    have fin : ∀ {w5 : World} {x : Sl}, Ext w2 w5 → SlR (fun b => w2.heap.size ≤ b) w5 x (pullRow p S L[i]) → V_s_elPullEdge_k4 (IN2 L.length fun i (out : Sl) w' => Ext w1 w' ∧ ∃ ss, OwnL w' w1.heap.size T.t_sl_int out ss ∧ AlD w' out ss ((L.take i).map (pullRow p S))) (MN2 L.length) (i : Int) w2 out x w5 := fun {w5 x} hE5 hx => by
      unfold V_s_elPullEdge_k4
      have hll : ((L.take i).map (pullRow p S)).length = i := by rw [List.length_map, List.length_take]; omega
      have hz5 := hE5.size_le
      refine add_al (hO2.ext hE5) (hA2.ext hE5) (hx.weak (fun b hb _ hos => by have := (hO2.blk b hos).2; omega) RepP.pos) (by omega) (by omega) fun s' w6 hO6 hA6 hX6 => ?_
      refine IN2_next hL.le hi' ⟨hX6 w1 (hE2.trans hE5) (Nat.le_refl _), _, hO6, ?_⟩
      rw [map_take_succ hi']
      exact hA6
    have hgo : ∀ {w5 : World}, Ext w4 w5 → ¬ (L[i].length : Int) = p.degree → V_s_elPullEdge_k5 (IN2 L.length fun i (out : Sl) w' => Ext w1 w' ∧ ∃ ss, OwnL w' w1.heap.size T.t_sl_int out ss ∧ AlD w' out ss ((L.take i).map (pullRow p S))) (MN2 L.length) (i : Int) w2 r4 out a true w5 := fun {w5} hE5 hne => by
      unfold V_s_elPullEdge_k5
      refine cond_t rfl ?_
      have hRa5 := (hRa.ext hE4).ext hE5
      rw [hRa5.len]
      let g : Int → Int := fun y => (labsOf y.toNat).headD 0
      refine ⟨IN2 (L[i].map fun x => S.getD x.toNat 0).length fun j (o : Sl) w' => Ext w5 w' ∧ OwnL w' w5.heap.size T.t_int o (((L[i].map fun x => S.getD x.toNat 0).take j).map g), MN2 (L[i].map fun x => S.getD x.toNat 0).length, IN2_zero ⟨Ext.refl _, OwnL.nil _ _ _⟩, ?_⟩
      rintro o _ w6 ⟨j, rfl, hj, hE6, hO6⟩
      intros
      refine cond_dec (fun hlt2 => ?_) (fun hge2 => ?_)
      · have hj' : j < (L[i].map fun x => S.getD x.toNat 0).length := by omega
        refine (hRa5.ext hE6).ixI hj' fun q _ hc => LD_int hc ?_
        obtain ⟨m, hm1, hm2, hm3⟩ := hab _ (List.getElem_mem hj')
        rw [hm1]
        refine call (elLabels_ok m w6) ?_
        rintro u w7 ⟨hE7, hO7⟩
        have hne2 := labs_ne_nil hm2 hm3
        have hpos : 0 < (labsOf m).length := List.length_pos_iff.2 hne2
        refine (hO7.rep (labsOf_I64 m)).any.ixI (i := 0) hpos fun q _ hc => LD_int hc ?_
        refine RUN_lit1 (α := Int) slt_int _ rfl (by decide) fun y w8 hE8 hO8 => ?_
        have hO68 := (hO6.ext hE7).ext hE8
        have hlj : (((L[i].map fun x => S.getD x.toNat 0).take j).map g).length = j := by rw [List.length_map, List.length_take]; omega
        have hli : (L[i].map fun x => S.getD x.toNat 0).length = L[i].length := List.length_map ..
        have hz := hE6.size_le
        refine RUN_append (α := Int) slt_int hO68 (by have := hE7.size_le; have := hE8.size_le; omega) (hO8.rep (by intro x hx; rw [List.mem_singleton.1 hx]; exact labsOf_I64 m _ (List.getElem_mem hpos))).any (by simp; omega) (by simp [maxLen]; omega) fun r w9 hO9 hs9 => ?_
        refine IN2_next hRa5.le hj' ⟨hs9.ext0 (hE6.trans (hE7.trans hE8)) fun k hk => (hO68.blk k hk).1, ?_⟩
        rw [map_take_succ hj']
        have e : g (L[i].map fun x => S.getD x.toNat 0)[j] = (labsOf m)[0] := by
          show (labsOf ((L[i].map fun x => S.getD x.toNat 0)[j]).toNat).headD 0 = _
          rw [hm1, Int.toNat_natCast]
          exact head_get hpos
        rw [e]
        exact hO9
      · have : j = (L[i].map fun x => S.getD x.toNat 0).length := by omega
        subst this
        rw [List.take_length] at hO6
        have hpr : pullRow p S L[i] = (L[i].map fun x => S.getD x.toNat 0).map g := by
          unfold pullRow
          rw [if_neg hne]
          simp [listsAt, g]
        refine fin (hE24.trans (hE5.trans hE6)) ?_
        rw [hpr]
        refine (hO6.rep fun x hx => ?_).weak (fun b hb _ => by have := (hE24.trans hE5).size_le; omega) RepP.pos
        obtain ⟨y, hy, rfl⟩ := List.mem_map.1 hx
        obtain ⟨m, rfl, hm2, hm3⟩ := hab y hy
        show I64 ((labsOf (Int.toNat (m : Nat))).headD 0)
        rw [Int.toNat_natCast]
        cases hh : labsOf m with
        | nil => exact absurd hh (labs_ne_nil hm2 hm3)
        | cons y ys => exact labsOf_I64 m y (by rw [hh]; simp)
    refine cond_ne (fun hne => hgo (Ext.refl _) hne) (fun heq => ?_)
    have heq' : (L[i].length : Int) = p.degree := heq
    have hsome := hri.some heq'
    have hP : (fun c => decide (sortI c ∈ p.nodes)) = nodeB p := rfl
    rw [hP] at hm
    cases hG : firstC (nodeB p) (listsAt S L[i]) [] with
    | none => rw [hG] at hsome; cases hsome
    | some c =>
      rw [hG] at hm
      obtain ⟨rfl, hR4⟩ := hm
      unfold V_s_elPullEdge_k5
      refine cond_f rfl (fin hE24 ?_)
      unfold pullRow
      rw [if_pos heq', hG]
      have hz3 := hE3.size_le
      exact hR4.weak (fun b hb _ => by rcases hb with h1 | h1; exact h1.elim; omega) RepP.pos
  · have : i = L.length := by omega
    subst this
    rw [List.take_length] at hA2
    exact ⟨hE1.trans hE2, hO2.rows hA2.1 (fun i h1 h2 => (hA2.2 i h1 h2).any) fun _ _ => trivial⟩

/-! ### What is asked -/

structure PeAsked (p : Prob) (n : Net) (L : List (List Int)) : Prop where
  good : edGood p
  net : Good n
  lab : LabOk (edgeP p) n.ends L
  clean : Clean (edgeP p) n.ends L

theorem edge_sets {p : Prob} (hg : PGood p) : SetsOk (edgeSets p) := ⟨fun x hx => by
  obtain ⟨l, hl, hxl⟩ := (mem_setsOf (edge_byte hg)).1 hx
  rw [edgeFull_eq] at hl
  obtain ⟨m, hm, rfl⟩ := List.mem_map.1 hl
  have h1 := List.mem_filter.1 hm
  have h2 := List.mem_range.1 h1.1
  have h3 := two_lab hg
  have h4 := near_lt hg m
  have h5 := h1.2
  simp only [edF, Bool.and_eq_true, decide_eq_true_eq] at h5
  unfold edG at hxl
  rcases List.mem_cons.1 hxl with rfl | hxl
  · exact ⟨m, rfl, h5.1.1, by omega⟩
  · rw [List.mem_singleton.1 hxl]
    exact ⟨_, rfl, by have := h5.1.2; omega, h4⟩⟩

theorem edge_made {p : Prob} (h : edGood p) : PGood (edgeP p) := (EdAsked.mk h.1 h.2).made

theorem edge_small {p : Prob} (h : edGood p) : SmallP (edgeP p) := by
  have hd := h.1.deg
  have h1 := h.2.2
  exact ⟨small_filter (k := p.degree.toNat) h1 (by omega) _, small_filter (k := 2) h1 (by omega) _⟩

/-- A choice for labels in order is one for the labels as they are. -/
theorem choice_perm {S r : List Int} {good : List Int → Bool} (hgood : ∀ {c d : List Int}, c.Perm d → good c = good d) (h : (prodL (listsAt S (sortI r))).any good = true) : (firstC good (listsAt S r) []).isSome = true := by
  rw [firstC_some]
  rw [List.any_eq_true] at h ⊢
  obtain ⟨c, hc, hgc⟩ := h
  have hp : (listsAt S (sortI r)).Perm (listsAt S r) := (sortI_perm r).map _
  obtain ⟨d, hd, hcd⟩ := forall₂_perm hp (mem_prodL.1 hc)
  exact ⟨d, mem_prodL.2 hd, by rw [← hgood hcd]; exact hgc⟩

theorem row_len {p : Prob} {n : Net} {L : List (List Int)} (hg : Good n) (h : LabOk p n.ends L) : ∀ r ∈ L, r.length ≤ 1000 := fun r hr => by
  obtain ⟨v, hv, rfl⟩ := List.mem_iff_getElem.1 hr
  have hve : v < n.ends.length := by have := h.rows.1; omega
  have h1 := h.rows.2 v hv
  rw [rowD hv, rowD hve] at h1
  have := hg.deg hve
  omega

theorem nodes_of {p : Prob} {n : Net} {L : List (List Int)} (h4 : LabOk p n.ends L) (h5 : Clean p n.ends L) : ∀ r ∈ L, (r.length : Int) = p.degree → NodeOk p r := fun r hr hd => by
  obtain ⟨v, hv, rfl⟩ := List.mem_iff_getElem.1 hr
  have hve : v < n.ends.length := by have := h4.rows.1; omega
  have hB := (h5 v hve).1
  unfold NodeBad at hB
  rw [rowD hv] at hB
  exact Classical.byContradiction fun hn => hB ⟨hd, hn⟩

theorem pull_rows {p : Prob} {n : Net} {L : List (List Int)} (hn : Good n) (hlab : LabOk (edgeP p) n.ends L) (hcl : Clean (edgeP p) n.ends L) : ∀ r ∈ L, PullOk p (edgeSets p) r := fun r hr => by
  refine ⟨fun x hx => ?_, row_len hn hlab r hr, fun hd => ?_⟩
  · have h1 := hlab.labs r hr x hx
    have : (edgeP p).labels = ((edgeSets p).length : Nat) := rfl
    omega
  · have hN := nodes_of hlab hcl r hr hd
    have h1 : sortI r ∈ (msets (edgeSets p).length p.degree.toNat).filter fun c => (prodL (listsAt (edgeSets p) c)).any (nodeB p) := hN
    exact choice_perm nodeB_perm (List.mem_filter.1 h1).2

theorem PullEdgeStep_ok {w : World} {c d a b e s : Sl} {p : Prob} {n : Net} {L : List (List Int)} (h : RProb w c d p) (hN : RNet w a b e n) (hl : R w s L) (hsp : SmallP p) (hn : Small n) (hsl : SmallM L) :
    Calls Tryz.prog F.i_PullEdgeStep #[.agg #[.int .i64 p.labels, .int .i64 p.degree, c.v, d.v], .agg #[a.v, b.v, e.v], s.v] w (Ret [.at .sl, .at .bool] fun (r : Sl) (y : Bool) w' => Ext w w' ∧ ∃ m, OutM w.heap.size w' r m ∧ AnsG (PeAsked p n L) (L.map (pullRow p (edgeSets p))) [] m y) := by
  refine C_i_PullEdgeStep ?_
  unfold V_i_PullEdgeStep
  refine NEW_intro fun pp w1 hp1 hs1 hE1 hb1 => NEW_intro fun pn w2 hp2 hs2 hE2 hb2 => ?_
  have hE := hE1.trans hE2
  replace h := h.ext hE
  replace hN := hN.ext hE
  replace hl := hl.ext hE
  replace hb1 := hb1.ext hE2
  refine LD_iiss hb1 ?_
  refine call (EdgeStep_ok h hsp) ?_
  rintro x y z u S r w3 ⟨hE3, hr⟩
  replace hE := hE.ext hE3
  replace h := h.ext hE3
  replace hN := hN.ext hE3
  replace hl := hl.ext hE3
  replace hb1 := hb1.ext hE3
  replace hb2 := hb2.ext hE3
  refine NEW_ST (one4p _ _ _ _) rfl fun pq w4 hp4 hE4 hb4 => ?_
  replace hE := hE.ext hE4
  replace h := h.ext hE4
  replace hN := hN.ext hE4
  replace hl := hl.ext hE4
  replace hb1 := hb1.ext hE4
  replace hb2 := hb2.ext hE4
  rcases hr with ⟨rfl, hgd, rfl, rfl, hP⟩ | ⟨rfl, hn'⟩
  · replace hP := hP.ext hE4
    refine cond_not (fun hf => by cases hf) (fun _ => LD_box3 hb2 ?_)
    refine call (isNetwork_ok hN hn.2.2.1) ?_
    rintro t w6 ⟨ht, hE6⟩
    replace hE := hE.ext hE6
    replace h := h.ext hE6
    replace hN := hN.ext hE6
    replace hl := hl.ext hE6
    replace hb1 := hb1.ext hE6
    replace hb2 := hb2.ext hE6
    replace hb4 := hb4.ext hE6
    replace hP := hP.ext hE6
    refine cond_not (fun hfa => ⟨hE, [], OutM.nil _ _, .no fun hA => (by rw [ht.2 hA.net] at hfa; cases hfa)⟩) (fun ht2 => LD_iiss hb4 (LD_box3 hb2 ?_))
    have hg := ht.1 ht2
    refine call (isSolution_ok (p := edgeP p) hP.prob (edge_small hgd) (edge_made hgd) hg hN hl) ?_
    rintro v w7 ⟨hv, hE7⟩
    replace hE := hE.ext hE7
    replace h := h.ext hE7
    replace hN := hN.ext hE7
    replace hl := hl.ext hE7
    replace hb1 := hb1.ext hE7
    replace hb2 := hb2.ext hE7
    replace hP := hP.ext hE7
    refine cond_not (fun hfa => ⟨hE, [], OutM.nil _ _, .no fun hA => (by rw [hv.2 ⟨hA.lab, hA.clean⟩] at hfa; cases hfa)⟩) (fun ht3 => LD_iiss hb1 ?_)
    obtain ⟨hLb, hCl⟩ := hv.1 ht3
    refine call (pullEdgeStep_ok h hsp hgd.1 hP.sets.any (edge_sets hgd.1) hl (pull_rows hg hLb hCl) hsl.1) ?_
    rintro r y w8 ⟨hE8, rfl, hO⟩
    exact ⟨hE.trans hE8, _, hO.low hE.size_le, .yes ⟨hgd, hg, hLb, hCl⟩⟩
  · refine cond_not (fun _ => ⟨hE, [], OutM.nil _ _, .no fun hA => hn' hA.good⟩) (fun ht => by cases ht)

theorem sPullEdgeStep_ok {w : World} {c d a b e s : Sl} {p : Prob} {n : Net} {L : List (List Int)} (h : RProb w c d p) (hN : RNet w a b e n) (hl : R w s L) :
    Calls Tryz.prog F.s_PullEdgeStep #[.agg #[.int .i64 p.labels, .int .i64 p.degree, c.v, d.v], .agg #[a.v, b.v, e.v], s.v] w (Ret [.at .sl, .at .bool] fun (r : Sl) (y : Bool) w' => Ext w w' ∧ ∃ m, R w' r m ∧ AnsG (PeAsked p n L) (L.map (pullRow p (edgeSets p))) [] m y) := by
  refine C_s_PullEdgeStep ?_
  unfold V_s_PullEdgeStep
  refine NEW_intro fun pp w1 hp1 hs1 hE1 hb1 => NEW_intro fun pn w2 hp2 hs2 hE2 hb2 => ?_
  have hE := hE1.trans hE2
  replace h := h.ext hE
  replace hN := hN.ext hE
  replace hl := hl.ext hE
  replace hb1 := hb1.ext hE2
  have hni : ∀ {w' : World}, R w' (⟨none, 0, 0⟩ : Sl) ([] : List (List Int)) := fun {w'} => (OutM.nil 0 w').rep
  refine LD_iiss hb1 ?_
  refine call (sEdgeStep_ok h) ?_
  rintro x y z u S r w3 ⟨hE3, hr⟩
  replace hE := hE.ext hE3
  replace h := h.ext hE3
  replace hN := hN.ext hE3
  replace hl := hl.ext hE3
  replace hb1 := hb1.ext hE3
  replace hb2 := hb2.ext hE3
  refine NEW_ST (one4p _ _ _ _) rfl fun pq w4 hp4 hE4 hb4 => ?_
  replace hE := hE.ext hE4
  replace h := h.ext hE4
  replace hN := hN.ext hE4
  replace hl := hl.ext hE4
  replace hb1 := hb1.ext hE4
  replace hb2 := hb2.ext hE4
  rcases hr with ⟨rfl, hgd, rfl, rfl, hP⟩ | ⟨rfl, hn'⟩
  · replace hP := hP.ext hE4
    refine cond_not (fun hf => by cases hf) (fun _ => LD_iiss hb4 (LD_box3 hb2 ?_))
    refine call (prAsked_ok (p := edgeP p) hP.prob hN hl) ?_
    rintro t w6 ⟨ht, hE6⟩
    replace hE := hE.ext hE6
    replace h := h.ext hE6
    replace hN := hN.ext hE6
    replace hl := hl.ext hE6
    replace hb1 := hb1.ext hE6
    replace hb2 := hb2.ext hE6
    replace hb4 := hb4.ext hE6
    replace hP := hP.ext hE6
    refine cond_not (fun hfa => ⟨hE, [], hni, .no fun hA => (by rw [ht.2 ⟨edge_made hgd, hA.net, hA.lab⟩] at hfa; cases hfa)⟩) (fun ht2 => LD_iiss hb4 (LD_box3 hb2 ?_))
    have hA := ht.1 ht2
    refine call (prIs_ok (p := edgeP p) hP.prob hA.fin hN hl) ?_
    rintro v w7 ⟨hv, hE7⟩
    replace hE := hE.ext hE7
    replace h := h.ext hE7
    replace hN := hN.ext hE7
    replace hl := hl.ext hE7
    replace hb1 := hb1.ext hE7
    replace hb2 := hb2.ext hE7
    replace hP := hP.ext hE7
    refine cond_not (fun hfa => ⟨hE, [], hni, .no fun hA => (by rw [hv.2 hA.clean] at hfa; cases hfa)⟩) (fun ht3 => LD_iiss hb1 ?_)
    have hCl := hv.1 ht3
    have hlen : L.length ≤ 1048576 := by have := hA.lab.rows.1; have := hA.good.size.2; omega
    refine call (elPullEdge_ok h hgd.1 hP.sets.any (edge_sets hgd.1) hl (pull_rows hA.good hA.lab hCl) hlen) ?_
    rintro r w8 ⟨hE8, hO⟩
    exact ⟨hE.trans hE8, _, hO, .yes ⟨hgd, hA.good, hA.lab, hCl⟩⟩
  · refine cond_not (fun _ => ⟨hE, [], hni, .no fun hA => hn' hA.good⟩) (fun ht => by cases ht)

end Go.Proofs.YtlmiookpmneicaaGreat
end

section
/- The walk of the law FnExactPullEdgeStep. -/
namespace Go.Proofs.YtlmiookpmneicaaGreat
open Go.GX Go.RowKit
set_option maxRecDepth 100000
set_option maxHeartbeats 800000

theorem fnExactPullEdgeStep_ok {w : World} {c0 e0 : Sl} {q0 : Prob} {a1 b1 c1 : Sl} {n1 : Net} {s2 : Sl} {l2 : List (List Int)} (h0 : RProb w c0 e0 q0) (h1 : RNet w a1 b1 c1 n1) (h2 : R w s2 l2) :
    Calls Tryz.prog F.l_FnExactPullEdgeStep #[.agg #[.int .i64 q0.labels, .int .i64 q0.degree, c0.v, e0.v], .agg #[a1.v, b1.v, c1.v], s2.v] w (Ret [.at .bool] fun (x : Bool) w' => x = true ∧ Ext w w') := by
  refine C_l_FnExactPullEdgeStep ?_
  unfold V_l_FnExactPullEdgeStep
  refine NEW_intro fun p0 u0 hp0 hs0 hA0 hb0 => ?_
  have hE := hA0
  replace h0 := h0.ext hA0
  replace h1 := h1.ext hA0
  replace h2 := h2.ext hA0
  refine NEW_intro fun p1 u1 hp1 hs1 hA1 hb1 => ?_
  replace hE := hE.ext hA1
  replace h0 := h0.ext hA1
  replace h1 := h1.ext hA1
  replace h2 := h2.ext hA1
  replace hb0 := hb0.ext hA1
  refine LD_iiss hb0 ?_
  refine call (szProblem_ok h0 1048576 (by omega) (by omega)) ?_
  rintro z0 x0 ⟨hz0, hB0⟩
  replace hE := hE.ext hB0
  replace h0 := h0.ext hB0
  replace h1 := h1.ext hB0
  replace h2 := h2.ext hB0
  replace hb0 := hb0.ext hB0
  replace hb1 := hb1.ext hB0
  refine cond_dec (fun _ => ⟨rfl, hE⟩) (fun hzl0 => ?_)
  have hS0 := (hz0 (by omega)).1
  have hzz0 := (hz0 (by omega)).2
  refine LD_box3 hb1 ?_
  refine call (szNetwork_at h1 z0 (by omega) (by omega)) ?_
  rintro z1 x1 ⟨hz1, hB1⟩
  replace hE := hE.ext hB1
  replace h0 := h0.ext hB1
  replace h1 := h1.ext hB1
  replace h2 := h2.ext hB1
  replace hb0 := hb0.ext hB1
  replace hb1 := hb1.ext hB1
  refine cond_dec (fun _ => ⟨rfl, hE⟩) (fun hzl1 => ?_)
  have hS1 := (hz1 (by omega)).1
  have hzz1 := (hz1 (by omega)).2
  refine call (szIntSS_ok h2 z1 (by omega) (by omega)) ?_
  rintro z2 _ ⟨hz2, rfl⟩
  refine cond_dec (fun _ => ⟨rfl, hE⟩) (fun hzl2 => ?_)
  obtain ⟨hzz2, hza2, hzb2⟩ := hz2 (by omega)
  have hS2 : SmallM l2 := ⟨by omega, fun r hr => by have := hzb2 r hr; omega⟩
  intro wS hGS _
  replace hE := hE.ext hGS
  replace h0 := h0.ext hGS
  replace h1 := h1.ext hGS
  replace h2 := h2.ext hGS
  replace hb0 := hb0.ext hGS
  replace hb1 := hb1.ext hGS
  have hReg := Ext.refl wS
  refine LD_iiss hb0 (LD_box3 hb1 ?_)
  refine call (toProblem_ok h0 hS0) ?_
  rintro _ _ zs0 us0 ws0 ⟨rfl, rfl, hEs0, hNs0⟩
  replace hE := hE.ext hEs0
  replace h0 := h0.ext hEs0
  replace h1 := h1.ext hEs0
  replace h2 := h2.ext hEs0
  replace hb0 := hb0.ext hEs0
  replace hb1 := hb1.ext hEs0
  replace hReg := hReg.ext hEs0
  refine ⟨hReg, ?_⟩
  refine call (toNetwork_ok h1 hS1) ?_
  rintro xs1 ys1 zs1 ws1 ⟨hEs1, hNs1⟩
  replace hE := hE.ext hEs1
  replace h0 := h0.ext hEs1
  replace h1 := h1.ext hEs1
  replace h2 := h2.ext hEs1
  replace hb0 := hb0.ext hEs1
  replace hb1 := hb1.ext hEs1
  replace hReg := hReg.ext hEs1
  replace hNs0 := hNs0.ext hEs1
  refine ⟨hReg, ?_⟩
  refine call (toIntSS_own h2 hS2.1 hS2.2) ?_
  rintro ss2 ws2 ⟨hEs2, hOs2⟩
  replace hE := hE.ext hEs2
  replace h0 := h0.ext hEs2
  replace h1 := h1.ext hEs2
  replace h2 := h2.ext hEs2
  replace hb0 := hb0.ext hEs2
  replace hb1 := hb1.ext hEs2
  replace hReg := hReg.ext hEs2
  replace hNs0 := hNs0.ext hEs2
  replace hNs1 := hNs1.ext hEs2
  have hRs2 := hOs2.rep (flat_okII h2)
  refine ⟨hReg, ?_⟩
  refine call (sPullEdgeStep_ok hNs0 hNs1 hRs2) ?_
  rintro r10 r11 wA ⟨hCA, r1L0, hL10, hA1⟩
  replace hE := hE.ext hCA
  replace h0 := h0.ext hCA
  replace h1 := h1.ext hCA
  replace h2 := h2.ext hCA
  replace hb0 := hb0.ext hCA
  replace hb1 := hb1.ext hCA
  replace hReg := hReg.ext hCA
  replace hNs0 := hNs0.ext hCA
  replace hNs1 := hNs1.ext hCA
  replace hRs2 := hRs2.ext hCA
  refine ⟨hReg, ?_⟩
  refine ⟨hReg, ?_⟩
  refine ⟨hReg, ?_⟩
  have hX := Ext.refl wA
  refine LD_iiss (hb0.ext hX) ?_
  have hlo0 := hX.size_le
  refine call (toProblem_own (h0.ext hX) hS0) ?_
  rintro _ _ zi0 ui0 wi0 ⟨rfl, rfl, hEi0, mid0, top0, hOP0⟩
  have hls0 := hEi0.size_le
  replace hX := hX.ext hEi0
  have hM0 := hOP0.mnodes
  have hMe0 := hOP0.medges
  have hlm0 := hOP0.lom
  have hmt0 := hOP0.mhi
  have htw0 := hOP0.top
  have hNi0 := hOP0.prob h0
  have hH0 := Ext.refl wi0
  refine NEW_ST (one4p _ _ _ _) rfl fun yi0 vi0 hqi0 hFi0 hc0 => ?_
  replace hX := hX.ext hFi0
  replace hM0 := hM0.ext hFi0
  replace hMe0 := hMe0.ext hFi0
  replace hNi0 := hNi0.ext hFi0
  replace hH0 := hH0.ext hFi0
  refine LD_box3 (hb1.ext hX) ?_
  have hlp1_0 := hH0.size_le
  have hlo1 := hX.size_le
  refine call (toNetwork_own (h1.ext hX) hS1) ?_
  rintro xi1 yi1 zi1 wi1 ⟨hEi1, hON1⟩
  have hls1 := hEi1.size_le
  replace hX := hX.ext hEi1
  replace hM0 := hM0.ext hEi1
  replace hMe0 := hMe0.ext hEi1
  replace hNi0 := hNi0.ext hEi1
  replace hH0 := hH0.ext hEi1
  replace hc0 := hc0.ext hEi1
  have hM1 := hON1.mnet hS1
  have hNi1 := hON1.net h1
  have hH1 := Ext.refl wi1
  refine NEW_ST (one3 _ _ _) rfl fun qi1 vi1 hqi1 hFi1 hc1 => ?_
  replace hX := hX.ext hFi1
  replace hM0 := hM0.ext hFi1
  replace hMe0 := hMe0.ext hFi1
  replace hNi0 := hNi0.ext hFi1
  replace hH0 := hH0.ext hFi1
  replace hc0 := hc0.ext hFi1
  replace hM1 := hM1.ext hFi1
  replace hNi1 := hNi1.ext hFi1
  replace hH1 := hH1.ext hFi1
  have hlp2_0 := hH0.size_le
  have hlp2_1 := hH1.size_le
  have hlo2 := hX.size_le
  refine call (toIntSS_own (h2.ext hX) hS2.1 hS2.2) ?_
  rintro si2 wi2 ⟨hEi2, hOi2⟩
  have hls2 := hEi2.size_le
  replace hX := hX.ext hEi2
  replace hM0 := hM0.ext hEi2
  replace hMe0 := hMe0.ext hEi2
  replace hNi0 := hNi0.ext hEi2
  replace hH0 := hH0.ext hEi2
  replace hc0 := hc0.ext hEi2
  replace hM1 := hM1.ext hEi2
  replace hNi1 := hNi1.ext hEi2
  replace hH1 := hH1.ext hEi2
  replace hc1 := hc1.ext hEi2
  have hRi2 := hOi2.rep (flat_okII h2)
  have hM2 := mintss_of hOi2 hS2.1 hS2.2
  have hH2 := Ext.refl wi2
  refine LD_iiss hc0 ?_
  refine LD_box3 hc1 ?_
  have hhi0 := hH0.size_le
  have hhi1 := hH1.size_le
  have hhi2 := hH2.size_le
  have hXD := hX.size_le
  refine call (PullEdgeStep_ok hNi0 hNi1 hRi2 hS0 hS1 hS2) ?_
  rintro r20 r21 wE ⟨hCE, r2L0, hG20, hA2⟩
  replace hX := hX.ext hCE
  replace hM0 := hM0.ext hCE
  replace hMe0 := hMe0.ext hCE
  replace hNi0 := hNi0.ext hCE
  replace hH0 := hH0.ext hCE
  replace hc0 := hc0.ext hCE
  replace hM1 := hM1.ext hCE
  replace hNi1 := hNi1.ext hCE
  replace hH1 := hH1.ext hCE
  replace hc1 := hc1.ext hCE
  replace hRi2 := hRi2.ext hCE
  replace hM2 := hM2.ext hCE
  replace hH2 := hH2.ext hCE
  obtain ⟨rfl, rfl⟩ := hA1.eq hA2
  refine call (eqIntSS_ok hG20.rep (hL10.ext hX)) ?_
  rintro _ we1 ⟨rfl, hK⟩
  replace hX := hX.ext hK
  replace hM0 := hM0.ext hK
  replace hMe0 := hMe0.ext hK
  replace hNi0 := hNi0.ext hK
  replace hH0 := hH0.ext hK
  replace hc0 := hc0.ext hK
  replace hM1 := hM1.ext hK
  replace hNi1 := hNi1.ext hK
  replace hH1 := hH1.ext hK
  replace hc1 := hc1.ext hK
  replace hRi2 := hRi2.ext hK
  replace hM2 := hM2.ext hK
  replace hH2 := hH2.ext hK
  replace hG20 := hG20.ext hK
  refine cond_f (by simp) ?_
  refine cond_f (by simp) ?_
  unfold V_l_FnExactPullEdgeStep_k4
  intro m0 hG0 _
  replace hX := hX.ext hG0
  replace hM0 := hM0.ext hG0
  replace hMe0 := hMe0.ext hG0
  replace hNi0 := hNi0.ext hG0
  replace hH0 := hH0.ext hG0
  replace hc0 := hc0.ext hG0
  replace hM1 := hM1.ext hG0
  replace hNi1 := hNi1.ext hG0
  replace hH1 := hH1.ext hG0
  replace hc1 := hc1.ext hG0
  replace hRi2 := hRi2.ext hG0
  replace hM2 := hM2.ext hG0
  replace hH2 := hH2.ext hG0
  replace hG20 := hG20.ext hG0
  refine LD_iiss hc0 (LD_iiss (hb0.ext hX) ?_)
  refine ⟨Ext.refl _, call (toProblem_ok (h0.ext hX) hS0) ?_⟩
  rintro _ _ ze0 ue0 we0' ⟨rfl, rfl, hHe0, hNe0⟩
  replace hX := hX.ext hHe0
  replace hM0 := hM0.ext hHe0
  replace hMe0 := hMe0.ext hHe0
  replace hNi0 := hNi0.ext hHe0
  replace hH0 := hH0.ext hHe0
  replace hc0 := hc0.ext hHe0
  replace hM1 := hM1.ext hHe0
  replace hNi1 := hNi1.ext hHe0
  replace hH1 := hH1.ext hHe0
  replace hc1 := hc1.ext hHe0
  replace hRi2 := hRi2.ext hHe0
  replace hM2 := hM2.ext hHe0
  replace hH2 := hH2.ext hHe0
  replace hG20 := hG20.ext hHe0
  refine ⟨hHe0, call (eqProblem_ok hNi0 hNe0) ?_⟩
  rintro _ wf0 ⟨rfl, hK0⟩
  replace hX := hX.ext hK0
  replace hM0 := hM0.ext hK0
  replace hMe0 := hMe0.ext hK0
  replace hNi0 := hNi0.ext hK0
  replace hH0 := hH0.ext hK0
  replace hc0 := hc0.ext hK0
  replace hM1 := hM1.ext hK0
  replace hNi1 := hNi1.ext hK0
  replace hH1 := hH1.ext hK0
  replace hc1 := hc1.ext hK0
  replace hRi2 := hRi2.ext hK0
  replace hM2 := hM2.ext hK0
  replace hH2 := hH2.ext hK0
  replace hG20 := hG20.ext hK0
  refine ⟨hHe0.trans hK0, cond_f (by simp) ?_⟩
  intro m1 hG1 _
  replace hX := hX.ext hG1
  replace hM0 := hM0.ext hG1
  replace hMe0 := hMe0.ext hG1
  replace hNi0 := hNi0.ext hG1
  replace hH0 := hH0.ext hG1
  replace hc0 := hc0.ext hG1
  replace hM1 := hM1.ext hG1
  replace hNi1 := hNi1.ext hG1
  replace hH1 := hH1.ext hG1
  replace hc1 := hc1.ext hG1
  replace hRi2 := hRi2.ext hG1
  replace hM2 := hM2.ext hG1
  replace hH2 := hH2.ext hG1
  replace hG20 := hG20.ext hG1
  refine LD_box3 hc1 (LD_box3 (hb1.ext hX) ?_)
  refine ⟨Ext.refl _, call (toNetwork_ok (h1.ext hX) hS1) ?_⟩
  rintro xe1 ye1 ze1 we1' ⟨hHe1, hNe1⟩
  replace hX := hX.ext hHe1
  replace hM0 := hM0.ext hHe1
  replace hMe0 := hMe0.ext hHe1
  replace hNi0 := hNi0.ext hHe1
  replace hH0 := hH0.ext hHe1
  replace hc0 := hc0.ext hHe1
  replace hM1 := hM1.ext hHe1
  replace hNi1 := hNi1.ext hHe1
  replace hH1 := hH1.ext hHe1
  replace hc1 := hc1.ext hHe1
  replace hRi2 := hRi2.ext hHe1
  replace hM2 := hM2.ext hHe1
  replace hH2 := hH2.ext hHe1
  replace hG20 := hG20.ext hHe1
  refine ⟨hHe1, call (eqNetwork_ok hNi1 hNe1) ?_⟩
  rintro _ wf1 ⟨rfl, hK1⟩
  replace hX := hX.ext hK1
  replace hM0 := hM0.ext hK1
  replace hMe0 := hMe0.ext hK1
  replace hNi0 := hNi0.ext hK1
  replace hH0 := hH0.ext hK1
  replace hc0 := hc0.ext hK1
  replace hM1 := hM1.ext hK1
  replace hNi1 := hNi1.ext hK1
  replace hH1 := hH1.ext hK1
  replace hc1 := hc1.ext hK1
  replace hRi2 := hRi2.ext hK1
  replace hM2 := hM2.ext hK1
  replace hH2 := hH2.ext hK1
  replace hG20 := hG20.ext hK1
  refine ⟨hHe1.trans hK1, cond_f (by simp) ?_⟩
  refine call (toIntSS_own (h2.ext hX) hS2.1 hS2.2) ?_
  rintro se2 we2' ⟨hHe2, hOe2⟩
  replace hX := hX.ext hHe2
  replace hM0 := hM0.ext hHe2
  replace hMe0 := hMe0.ext hHe2
  replace hNi0 := hNi0.ext hHe2
  replace hH0 := hH0.ext hHe2
  replace hc0 := hc0.ext hHe2
  replace hM1 := hM1.ext hHe2
  replace hNi1 := hNi1.ext hHe2
  replace hH1 := hH1.ext hHe2
  replace hc1 := hc1.ext hHe2
  replace hRi2 := hRi2.ext hHe2
  replace hM2 := hM2.ext hHe2
  replace hH2 := hH2.ext hHe2
  replace hG20 := hG20.ext hHe2
  refine call (eqIntSS_ok hRi2 (hOe2.rep (flat_okII h2))) ?_
  rintro _ wf2 ⟨rfl, hK2⟩
  replace hX := hX.ext hK2
  replace hM0 := hM0.ext hK2
  replace hMe0 := hMe0.ext hK2
  replace hNi0 := hNi0.ext hK2
  replace hH0 := hH0.ext hK2
  replace hc0 := hc0.ext hK2
  replace hM1 := hM1.ext hK2
  replace hNi1 := hNi1.ext hK2
  replace hH1 := hH1.ext hK2
  replace hc1 := hc1.ext hK2
  replace hRi2 := hRi2.ext hK2
  replace hM2 := hM2.ext hK2
  replace hH2 := hH2.ext hK2
  replace hG20 := hG20.ext hK2
  refine cond_f (by simp) ?_
  refine LD_iiss hc0 ?_
  refine call (markProblem_ok hM0 hMe0 hlm0 hmt0 (by have := hH0.size_le; omega) _ (by omega) (by omega)) ?_
  rintro k0 wm0 ⟨hk0, hkk0, hSh, hCh⟩
  have hzk0 := hCh.size
  replace hX := hCh.extR hX (by omega)
  replace hG20 := hG20.chgR hCh (by omega)
  replace hM1 := hM1.chg hSh hCh (by omega)
  replace hc1 := hc1.chg hCh (by omega)
  replace hM2 := hM2.chg hSh hCh (by omega)
  refine LD_box3 hc1 ?_
  refine call (markNetwork_at _ (by omega) (by omega) hM1 (by have := hH1.size_le; omega)) ?_
  rintro k1 wm1 ⟨hk1, hkk1, hSh, hCh⟩
  have hzk1 := hCh.size
  replace hX := hCh.extR hX (by omega)
  replace hG20 := hG20.chgR hCh (by omega)
  replace hM2 := hM2.chg hSh hCh (by omega)
  refine call (markIntSS_ok hM2 _ (by omega) (by omega)) ?_
  rintro k2 wm2 ⟨hk2, hkk2, hSh, hCh⟩
  have hzk2 := hCh.size
  replace hX := hCh.extR hX (by omega)
  replace hG20 := hG20.chgR hCh (by omega)
  refine cond_df (by omega) ?_
  refine call (eqIntSS_ok hG20.rep (hL10.ext hX)) ?_
  rintro _ we2 ⟨rfl, hK⟩
  replace hX := hX.ext hK
  replace hG20 := hG20.ext hK
  refine cond_f (by simp) ?_
  refine cond_f (by simp) ?_
  unfold V_l_FnExactPullEdgeStep_k9
  have hl0 := hG20.rows
  have hll0 := hG20.small
  have hpl0 := pre_le hll0 _ (Nat.le_refl _)
  refine call (markIntSS_out hG20 1 (by omega) (by omega)) ?_
  rintro mk0 wg0 ⟨hmk0, hMk0, hSt⟩
  replace hX := hSt.extB hX (by omega)
  refine call (heldIntSS_ok 1 hMk0 (by omega) (by omega) hl0 hll0) ?_
  rintro qh _ ⟨hqh, rfl⟩
  obtain rfl : mk0 = qh := (hqh.trans hmk0.symm).symm
  refine cond_df (by omega) ?_
  refine cond_f (by simp) ?_
  intro wT hGT _
  replace hX := hX.ext hGT
  replace hMk0 := hMk0.ext hGT
  have hReg := Ext.refl wT
  refine LD_iiss (hb0.ext hX) (LD_box3 (hb1.ext hX) ?_)
  refine call (toProblem_ok (h0.ext hX) hS0) ?_
  rintro _ _ zj0 uj0 wj0 ⟨rfl, rfl, hEj0, hNj0⟩
  replace hX := hX.ext hEj0
  replace hMk0 := hMk0.ext hEj0
  replace hReg := hReg.ext hEj0
  refine ⟨hReg, ?_⟩
  refine call (toNetwork_ok (h1.ext hX) hS1) ?_
  rintro xj1 yj1 zj1 wj1 ⟨hEj1, hNj1⟩
  replace hX := hX.ext hEj1
  replace hMk0 := hMk0.ext hEj1
  replace hReg := hReg.ext hEj1
  replace hNj0 := hNj0.ext hEj1
  refine ⟨hReg, ?_⟩
  refine call (toIntSS_own (h2.ext hX) hS2.1 hS2.2) ?_
  rintro sj2 wj2 ⟨hEj2, hOj2⟩
  replace hX := hX.ext hEj2
  replace hMk0 := hMk0.ext hEj2
  replace hReg := hReg.ext hEj2
  replace hNj0 := hNj0.ext hEj2
  replace hNj1 := hNj1.ext hEj2
  have hRj2 := hOj2.rep (flat_okII h2)
  refine ⟨hReg, ?_⟩
  refine call (PullEdgeStep_ok hNj0 hNj1 hRj2 hS0 hS1 hS2) ?_
  rintro r30 r31 wH ⟨hCH, r3L0, hG30, hA3⟩
  replace hX := hX.ext hCH
  replace hMk0 := hMk0.ext hCH
  replace hReg := hReg.ext hCH
  replace hNj0 := hNj0.ext hCH
  replace hNj1 := hNj1.ext hCH
  replace hRj2 := hRj2.ext hCH
  refine ⟨hReg, ?_⟩
  refine ⟨hReg, ?_⟩
  refine ⟨hReg, ?_⟩
  obtain ⟨rfl, rfl⟩ := hA1.eq hA3
  refine call (eqIntSS_ok hG30.rep (hL10.ext hX)) ?_
  rintro _ we3 ⟨rfl, hK⟩
  replace hX := hX.ext hK
  replace hMk0 := hMk0.ext hK
  replace hNj0 := hNj0.ext hK
  replace hNj1 := hNj1.ext hK
  replace hRj2 := hRj2.ext hK
  replace hG30 := hG30.ext hK
  refine cond_f (by simp) ?_
  refine cond_f (by simp) ?_
  refine call (heldIntSS_ok 1 hMk0 (by omega) (by omega) hl0 hll0) ?_
  rintro qh _ ⟨hqh, rfl⟩
  obtain rfl : mk0 = qh := (hqh.trans hmk0.symm).symm
  refine cond_df (by omega) ?_
  refine cond_f (by simp) ?_
  exact ⟨rfl, hE.trans hX⟩

end Go.Proofs.YtlmiookpmneicaaGreat
end

section
/- Facts of this seat's program that every claim's last step asks for, each computed once (together they need more memory than a text may use). -/
namespace Go.Proofs.YtlmiookpmneicaaGreat


theorem door_enters : Tryz.pinned.checked.prog.mayEnter = true := by kernel_rfl

theorem door_lifts : Tryz.pinned.checked.prog.liftsFinal = false := by kernel_rfl

theorem door_heard : Tryz.pinned.checked.prog.stopsHeard = true := by kernel_rfl

theorem door_laid : laidOutB Tryz.pinned.checked.prog = true := by kernel_rfl

theorem door_maps : mapsRowed Tryz.pinned.checked.prog = true := by kernel_rfl

end Go.Proofs.YtlmiookpmneicaaGreat
end
