/- IndependentByIds, both sides. -/
import Derived.Test.YtcilbmkieclelaaRuling
namespace Go.Proofs.Ytcilbmkieclelaa
open Go.GX Go.RowKit
set_option maxRecDepth 100000

/-! ### What the rounds compute -/

def idZ (n : Net) (x : Int) : Int := n.ids.getD x.toNat 0

def leastB (n : Net) (O : List Int) (v : Int) : Bool := !(adjOf n.ends v.toNat).any fun u => O.contains u && decide (idZ n u < idZ n v)
def joinOf (n : Net) (O : List Int) : List Int := O.filter (leastB n O)
def goneB (n : Net) (J : List Int) (v : Int) : Bool := J.contains v || !decide (Apart n.ends J v.toNat)
def nextOf (n : Net) (O : List Int) : List Int := O.filter fun v => !goneB n (joinOf n O) v
def openOf (n : Net) : List Int := (upTo n.ends.length).filter fun x => !(adjOf n.ends x.toNat).contains x

def indRun (n : Net) : Nat → List Int → List Int → Nat → List Int × Nat
  | 0, _, S, r => (S, r)
  | _ + 1, [], S, r => (S, r)
  | f + 1, x :: O, S, r => indRun n f (nextOf n (x :: O)) (S ++ joinOf n (x :: O)) (r + 1)

def indAll (n : Net) : List Int × Nat := indRun n 40 (openOf n) [] 0

theorem indRun_nil (n : Net) (f : Nat) (S : List Int) (r : Nat) : indRun n f [] S r = (S, r) := by cases f <;> rfl
theorem indRun_step (n : Net) (f : Nat) {O : List Int} (h : O ≠ []) (S : List Int) (r : Nat) : indRun n (f + 1) O S r = indRun n f (nextOf n O) (S ++ joinOf n O) (r + 1) := by
  cases O with
  | nil => exact absurd rfl h
  | cons x O => rfl

/-- Nodes without an edge to themselves. -/
def OpenOk (n : Net) (O : List Int) : Prop := ∀ x ∈ O, ∃ u : Nat, x = u ∧ u < n.ends.length ∧ (adjOf n.ends u).contains (u : Int) = false

theorem openOf_ok (n : Net) : OpenOk n (openOf n) := fun x hx => by
  simp only [openOf, List.mem_filter] at hx
  obtain ⟨u, rfl, hu⟩ := mem_upTo.1 hx.1
  exact ⟨u, rfl, hu, by simpa using hx.2⟩

theorem OpenOk.next {n : Net} {O : List Int} (h : OpenOk n O) : OpenOk n (nextOf n O) := fun x hx => h x (List.mem_filter.1 hx).1
theorem OpenOk.I64 {n : Net} (hg : Good n) {O : List Int} (h : OpenOk n O) : ∀ x ∈ O, GX.I64 x := fun x hx => by
  obtain ⟨u, rfl, hu, _⟩ := h x hx
  have := hg.size.2
  unfold GX.I64; omega

theorem openOf_len (n : Net) : (openOf n).length ≤ n.ends.length := by
  unfold openOf
  exact Nat.le_trans (List.length_filter_le _ _) (by rw [upTo_len]; exact Nat.le_refl _)

theorem filters_le {l : List Int} {p q : Int → Bool} (h : ∀ x ∈ l, p x = true → q x = false) : (l.filter p).length + (l.filter q).length ≤ l.length := by
  induction l with
  | nil => simp
  | cons x r ih =>
    have ih' := ih fun y hy => h y (by simp [hy])
    have hx := h x (by simp)
    simp only [List.filter_cons]
    cases hp : p x
    · cases hq : q x <;> simp <;> omega
    · rw [hx hp]; simp; omega

theorem join_next_le (n : Net) (O : List Int) : (joinOf n O).length + (nextOf n O).length ≤ O.length := by
  unfold nextOf
  conv => lhs; arg 1; unfold joinOf
  refine filters_le fun x hx hp => ?_
  have : (joinOf n O).contains x = true := by
    simp only [List.contains_eq_mem, decide_eq_true_eq]
    exact List.mem_filter.2 ⟨hx, hp⟩
  simp only [goneB, this, Bool.true_or, Bool.not_true]

theorem exists_least {n : Net} : ∀ {O : List Int}, O ≠ [] → ∃ v ∈ O, ∀ u ∈ O, idZ n v ≤ idZ n u
  | [], h => absurd rfl h
  | [x], _ => ⟨x, by simp, by simp⟩
  | x :: y :: r, _ => by
    obtain ⟨v, hv, hm⟩ := exists_least (n := n) (O := y :: r) (by simp)
    by_cases hx : idZ n x ≤ idZ n v
    · refine ⟨x, by simp, fun u hu => ?_⟩
      rcases List.mem_cons.1 hu with rfl | hu
      · omega
      · have := hm u hu; omega
    · refine ⟨v, List.mem_cons_of_mem _ hv, fun u hu => ?_⟩
      rcases List.mem_cons.1 hu with rfl | hu
      · omega
      · exact hm u hu

theorem join_ne {n : Net} {O : List Int} (h : O ≠ []) : 0 < (joinOf n O).length := by
  obtain ⟨v, hv, hm⟩ := exists_least (n := n) h
  refine List.length_pos_of_mem (List.mem_filter.2 ⟨hv, ?_⟩)
  unfold leastB
  rw [Bool.not_eq_true', List.any_eq_false]
  intro u hu
  simp only [Bool.and_eq_true, decide_eq_true_eq, not_and, List.contains_eq_mem]
  intro hO
  have := hm u hO
  omega

theorem next_lt {n : Net} {O : List Int} (h : O ≠ []) : (nextOf n O).length < O.length := by
  have := join_next_le n O
  have := join_ne (n := n) h
  omega

/-! ### The program's side -/

theorem ind1_ok {n : Net} (hA : IdsAsked n) {w : World} {a b c : Sl} (h : RNet w a b c n) {po pn pv : Addr} {t0 tn tv : TypeId} {o : Sl} {O : List Int} {v : Nat}
    (hbo : Box w po t0 [o.v]) (hO : R w o O) (hbn : Box w pn tn [a.v, b.v, c.v]) (hbv : Box w pv tv [.int .i64 (v : Int)]) (hv : v < n.ends.length) :
    AnswersG argsE w (.func (.func F.i_independentByIds_1) #[] #[.pointer (some po), .pointer (some pn), .pointer (some pv)]) n.ends[v] (fun e => O.contains e.1 && decide (idZ n e.1 < idZ n (v : Int))) := by
  intro e he w1 hE1
  replace h := h.ext hE1
  replace hbo := hbo.ext hE1
  replace hO := hO.ext hE1
  replace hbn := hbn.ext hE1
  replace hbv := hbv.ext hE1
  have hlen := hA.len
  obtain ⟨i, hi, rfl⟩ := List.mem_iff_getElem.1 he
  obtain ⟨u, y, hxy, hu, _⟩ := hA.good.far hv hi
  rw [hxy]
  refine CALLV_mk (by kernel_rfl) (C_i_independentByIds_1 ?_)
  unfold V_i_independentByIds_1
  refine NEW_intro fun pe w2 hpe hs2 hE2 hbe => ?_
  replace h := h.ext hE2
  replace hbo := hbo.ext hE2
  replace hO := hO.ext hE2
  replace hbn := hbn.ext hE2
  replace hbv := hbv.ext hE2
  refine LD_bs hbo (LD_bi0 hbe ?_)
  refine QCALL_bool (O.contains (u : Int)) (fun w' hw' => call (contains_ok (hO.ext hw') _) fun x w'' hx => ⟨hx.1, hx.2 ▸ Ext.refl _⟩) ?_
  have hvu : v < n.ids.length := by omega
  have huu : u < n.ids.length := by omega
  refine cond_b (fun ht => ?_) (fun hf => ?_)
  · refine LD_bs1 hbn (LD_bi0 hbe ?_)
    refine h.2.1.ixI huu fun q _ hc => LD_int hc (LD_bs1 hbn (LD_bi hbv ?_))
    refine h.2.1.ixI hvu fun q _ hc => LD_int hc ?_
    intro w3 hE3
    refine ⟨?_, hE2.trans hE3⟩
    simp only [ht, Bool.true_and, idZ, Int.toNat_natCast]
    simp [hvu, huu]
  · intro w3 hE3
    exact ⟨by simp only [hf, Bool.false_and], hE2.trans hE3⟩

theorem filter_take_succ {l : List Int} {i : Nat} (hi : i < l.length) (p : Int → Bool) : (l.take (i + 1)).filter p = (l.take i).filter p ++ if p l[i] then [l[i]] else [] := by
  rw [List.take_succ_eq_append_getElem hi, List.filter_append, List.filter_cons, List.filter_nil]

theorem independentByIds_ok {w : World} {a b c : Sl} {n : Net} (h : RNet w a b c n) (hA : IdsAsked n) :
    Calls Try.prog F.i_independentByIds #[.agg #[a.v, b.v, c.v]] w (Ret [.at .sl, .at (.int .i64)] fun (r : Sl) (k : Int) w' => Ext w w' ∧ OwnL w' w.heap.size T.t_int r (sortI (indAll n).1) ∧ k = ((indAll n).2 : Nat) ∧ (∀ x ∈ (indAll n).1, I64 x) ∧ (indAll n).1.length ≤ 40) := by
  refine C_i_independentByIds ?_
  unfold V_i_independentByIds
  have h40 := hA.good.size.2
  have hol := openOf_len n
  refine NEW_intro fun p w1 hp hs hE hb1 => ?_
  replace h := h.ext hE
  refine NEW_intro fun po w2 hpo hs2 hE2 hbo => LD_bs0 (hb1.ext hE2) ?_
  rw [h.1.len]
  refine ⟨IN n.ends.length fun i w' => Ext w1 w' ∧ ∃ o, Box w' po T.t_sl_int [o.v] ∧ OwnL w' w1.heap.size T.t_int o ((upTo i).filter fun x => !(adjOf n.ends x.toNat).contains x), MN n.ends.length, IN_zero ⟨hE2, ⟨none, 0, 0⟩, hbo, by simpa [upTo] using OwnL.nil _ _ _⟩, ?_⟩
  rintro _ w3 ⟨i, rfl, hi, hE3, o, hbo3, hO3⟩
  intros
  refine cond_dec (fun hlt => ?_) (fun hge => ?_)
  · have hi' : i < n.ends.length := by omega
    have hfl : ((upTo i).filter fun x => !(adjOf n.ends x.toNat).contains x).length ≤ 40 := Nat.le_trans (List.length_filter_le _ _) (by rw [upTo_len]; omega)
    refine LD_box3 (hb1.ext hE3) ?_
    refine call (areJoined_ok (h.ext hE3) hi' _) ?_
    rintro x w4 ⟨rfl, hE4⟩
    replace hE3 := hE3.ext hE4
    replace hbo3 := hbo3.ext hE4
    replace hO3 := hO3.ext hE4
    refine cond_not (fun hf => LD_bs hbo3 ?_) (fun ht => IN_next (by omega) hi' ⟨hE3, o, hbo3, by rw [filter_upTo_succ, if_neg (by simpa using ht)]; simpa using hO3⟩)
    refine RUN_lit1 (α := Int) slt_int (i : Int) rfl (by decide) fun r w5 hE5 hO5 => ?_
    replace hE3 := hE3.ext hE5
    replace hbo3 := hbo3.ext hE5
    replace hO3 := hO3.ext hE5
    refine RUN_append (α := Int) slt_int hO3 hE3.size_le (hO5.rep (by intro z hz; simp at hz; subst hz; show I64 _; unfold I64; omega)).any (by simp only [List.length_singleton]; omega) (by simp only [List.length_singleton, maxLen]; omega) fun r' w6 hO6 hs6 => ?_
    have hb6 := hbo3.stepT hO3 (by decide) hs6
    refine ST_all hb6 (one1s _) rfl fun w7 hs7 _ hb7 => ?_
    refine IN_next (by omega) hi' ⟨hs7.ext0 (hs6.ext0 hE3 (fun k hk => (hO3.blk k hk).1)) (fun k hk => by cases hk; omega), r', hb7, ?_⟩
    rw [filter_upTo_succ, if_pos (by simpa using hf)]
    exact hO6.stepB hb6 (by decide) hs7
  have : i = n.ends.length := by omega
  subst this
  refine ⟨fun st rounds w' => ∃ (O S : List Int) (o : Sl) (f r : Nat), rounds = (r : Int) ∧ r + O.length ≤ 40 ∧ Ext w1 w' ∧ Box w' po T.t_sl_int [o.v] ∧ OwnL w' w1.heap.size T.t_int o O ∧ OwnL w' w1.heap.size T.t_int st S ∧ (∀ k, oB st k → ¬ oB o k) ∧ OpenOk n O ∧ S.length + O.length ≤ 40 ∧ (∀ x ∈ S, I64 x) ∧ O.length ≤ f ∧ indRun n f O S r = indAll n,
    fun _ _ w' => match w'.cell? po with | some (.slice _ m _) => m | _ => 0, ⟨openOf n, [], o, 40, 0, rfl, by omega, hE3, hbo3, hO3, OwnL.nil _ _ _, (fun k hk => by cases hk), openOf_ok n, by simp; omega, by simp, by omega, rfl⟩, ?_⟩
  rintro st _ w8 ⟨O, S, o, f, r, rfl, hr40, hE8, hbo8, hOo, hOs, hdis, hOk, hSO, hSI, hf, hrun⟩
  intros
  refine LD_bs hbo8 ?_
  rw [hOo.1]
  have hOI := hOk.I64 hA.good
  refine cond_dec (fun hpos => ?_) (fun hnp => ?_)
  rotate_left
  · have hO0 : O = [] := List.length_eq_zero_iff.1 (by omega)
    subst hO0
    rw [indRun_nil] at hrun
    rw [← hrun]
    refine call (sort_ok hOs (by simp at hSO; omega)) ?_
    rintro w20 ⟨hO20, hs20⟩
    exact ⟨hE.trans (hs20.ext0 hE8 (fun k hk => (hOs.blk k hk).1)), hO20.low hE.size_le, rfl, hSI, by simp at hSO; simpa using hSO⟩
  have hOne : O ≠ [] := by intro h0; subst h0; simp at hpos
  refine NEW_intro fun pj w9 hpj hs9 hE9 hbj => LD_bs (hbo8.ext hE9) ?_
  rw [hOo.1]
  refine ⟨IN O.length fun i w' => Ext w8 w' ∧ ∃ jn, Box w' pj T.t_sl_int [jn.v] ∧ OwnL w' w8.heap.size T.t_int jn ((O.take i).filter (leastB n O)), MN O.length, IN_zero ⟨hE9, ⟨none, 0, 0⟩, hbj, by simpa using OwnL.nil _ _ _⟩, ?_⟩
  rintro _ w10 ⟨i, rfl, hi, hE10, jn, hbj10, hOj⟩
  intros
  have hR10 := (hOo.rep hOI).any.ext hE10
  refine cond_dec (fun hlt => ?_) (fun hge => ?_)
  · have hi' : i < O.length := by omega
    have hfl : ((O.take i).filter (leastB n O)).length ≤ 40 := Nat.le_trans (List.length_filter_le _ _) (by simp; omega)
    refine hR10.ixI hi' fun q h64 hc => LD_int hc ?_
    obtain ⟨v, hv, hvl, _⟩ := hOk _ (List.getElem_mem hi')
    have hstep := filter_take_succ hi' (leastB n O)
    rw [hv] at hstep h64 ⊢
    refine NEW_ST (by intro v hv; simp at hv; subst hv; rfl) rfl fun pv w12 hpv hE12 hbv => ?_
    replace hE10 := hE10.ext hE12
    replace hbj10 := hbj10.ext hE12
    replace hOj := hOj.ext hE12
    have hE112 := hE8.trans hE10
    refine LD_bs0 (hb1.ext hE112) (LD_bi hbv ?_)
    refine (h.ext hE112).1.ixL hvl fun q s1 hR hc => LD_sl hc ?_
    refine call (containsFuncE_ok hR (ind1_ok hA (h.ext hE112) (hbo8.ext hE10) ((hOo.rep hOI).any.ext hE10) (hb1.ext hE112) hbv hvl)) ?_
    rintro y w13 ⟨rfl, hE13⟩
    replace hE10 := hE10.ext hE13
    replace hbj10 := hbj10.ext hE13
    replace hOj := hOj.ext hE13
    replace hbv := hbv.ext hE13
    have hlb : leastB n O (v : Int) = !(n.ends[v].any fun e => O.contains e.1 && decide (idZ n e.1 < idZ n (v : Int))) := by
      unfold leastB adjOf
      simp only [Int.toNat_natCast]
      rw [rowOf_get hvl, List.any_map]
      rfl
    refine cond_not (fun hf => ?_) (fun ht => IN_next (by omega) hi' ⟨hE10, jn, hbj10, by rw [hstep, if_neg (by rw [hlb, ht]; simp)]; simpa using hOj⟩)
    refine LD_bs hbj10 (LD_bi hbv ?_)
    refine RUN_lit1 (α := Int) slt_int (v : Int) rfl (by decide) fun r w14 hE14 hO14 => ?_
    replace hE10 := hE10.ext hE14
    replace hbj10 := hbj10.ext hE14
    replace hOj := hOj.ext hE14
    refine RUN_append (α := Int) slt_int hOj hE10.size_le (hO14.rep (by intro z hz; simp at hz; subst hz; exact h64)).any (by simp; omega) (by simp [maxLen]; omega) fun r' w15 hO15 hs15 => ?_
    have hb15 := hbj10.stepT hOj (by decide) hs15
    refine ST_all hb15 (one1s _) rfl fun w16 hs16 _ hb16 => ?_
    refine IN_next (by omega) hi' ⟨hs16.ext0 (hs15.ext0 hE10 (fun k hk => (hOj.blk k hk).1)) (fun k hk => by cases hk; omega), r', hb16, ?_⟩
    rw [hstep, if_pos (by rw [hlb, hf]; rfl)]
    exact hO15.stepB hb15 (by decide) hs16
  have : i = O.length := by omega
  subst this
  rw [List.take_length] at hOj
  have hJ : O.filter (leastB n O) = joinOf n O := rfl
  rw [hJ] at hOj
  have hjnle := join_next_le n O
  have hJI : ∀ x ∈ joinOf n O, I64 x := fun x hx => hOI x (List.mem_filter.1 hx).1
  have hsblk := hOs.blk
  have hoblk := hOo.blk
  refine LD_bs hbj10 ?_
  refine RUN_appendF (α := Int) slt_int (hOs.ext hE10) (hE8.trans hE10).size_le (hOj.rep hJI) (by omega) (by simp only [maxLen]; omega) fun st' w17 hOs17 hs17 hnew => ?_
  have hE17 := hs17.ext0 (hE8.trans hE10) (fun k hk => (hsblk k hk).1)
  have hbo17 := (hbo8.ext hE10).stepT (hOs.ext hE10) (by decide) hs17
  have hbj17 := hbj10.stepT (hOs.ext hE10) (by decide) hs17
  have hOo17 : OwnL w17 w1.heap.size T.t_int o O := (hOo.ext hE10).keep fun k hk => hs17.block k ((hOo.ext hE10).blk k hk).2 fun he => hdis k he.symm hk
  have hRj17 := (hOj.rep hJI).stepD hs17 fun b hb he => by have := (hsblk b he).2; omega
  refine LD_bs hbo17 ?_
  refine call (deleteFunc_ok (p := goneB n (joinOf n O)) hOo17 hOI (by omega) ?_) ?_
  · intro x hx w' hC
    obtain ⟨v, rfl, hvl, _⟩ := hOk x hx
    have hE' : Ext w1 w' := hC.ext0 hE17 fun k hk => (hoblk k hk).1
    have hbj' := hbj17.chg hC (hbj17.notOwn hOo17 (by decide))
    have hRj' : R w' jn (joinOf n O) := (hRj17.chg hC fun b hb _ hk => by have := (hoblk b hk).2; omega).any
    refine CALLV_mk (by kernel_rfl) (C_i_independentByIds_2 ?_)
    unfold V_i_independentByIds_2
    refine LD_bs hbj' ?_
    refine call (contains_ok hRj' _) ?_
    rintro y _ ⟨rfl, rfl⟩
    refine cond_b (fun ht => ⟨by unfold goneB; rw [ht]; rfl, Ext.refl _⟩) (fun hf => LD_box3 (hb1.ext hE') (LD_bs hbj' ?_))
    refine call (hasNear_ok (h.ext hE') hRj' hvl) ?_
    rintro z w18 ⟨hz, hE18⟩
    refine ⟨?_, hE18⟩
    unfold goneB
    rw [hf, Bool.eq_iff_iff, hz]
    simp
  rintro rr w18 ⟨hC18, hOr, hra⟩
  have hbo18 := hbo17.chg hC18 (hbo17.notOwn hOo17 (by decide))
  have hOs18 : OwnL w18 w1.heap.size T.t_int st' (S ++ joinOf n O) := hOs17.chg hC18 fun b hb hk => by
    rcases hnew with h1 | h1
    · exact hdis b (by unfold oB; rw [← h1]; exact hb) hk
    · have := h1 b hb
      have := (hoblk b hk).2
      have := hE10.size_le
      omega
  have hE18 := hC18.ext0 hE17 fun k hk => (hoblk k hk).1
  refine ST_all hbo18 (one1s _) rfl fun w19 hs19 _ hbo19 => ?_
  obtain ⟨f', rfl⟩ : ∃ f', f = f' + 1 := ⟨f - 1, by have := List.length_pos_iff.2 hOne; omega⟩
  have hnl := next_lt (n := n) hOne
  have hnx : O.filter (fun x => !goneB n (joinOf n O) x) = nextOf n O := rfl
  rw [hnx] at hOr
  rw [wrap_of (by omega) (by omega)]
  refine ⟨⟨nextOf n O, S ++ joinOf n O, rr, f', r + 1, by omega, by omega, hs19.ext0 hE18 (fun k hk => by cases hk; omega), hbo19, hOr.stepB hbo18 (by decide) hs19, hOs18.stepB hbo18 (by decide) hs19, ?_, hOk.next, by simp; omega, ?_, by omega, ?_⟩, ?_⟩
  · intro k hk hko
    rw [oB_of hra] at hko
    rcases hnew with h1 | h1
    · exact hdis k (by unfold oB; rw [← h1]; exact hk) hko
    · have := h1 k hk
      have := (hoblk k hko).2
      have := hE10.size_le
      omega
  · intro x hx
    rcases List.mem_append.1 hx with h1 | h1
    · exact hSI x h1
    · exact hJI x h1
  · rw [← hrun, indRun_step n f' hOne]
  · have e1 : w19.cell? po = some rr.v := hbo19.cell (i := 0) rfl
    have e2 : w8.cell? po = some o.v := hbo8.cell (i := 0) rfl
    simp only [e1, e2]
    have := hOr.1
    have := hOo.1
    omega

theorem IndependentByIds_ok {w : World} {a b c : Sl} {n : Net} (h : RNet w a b c n) (hn : Small n) :
    Calls Try.prog F.i_IndependentByIds #[.agg #[a.v, b.v, c.v]] w (Ret [.at .sl, .at (.int .i64), .at .bool] fun (r : Sl) (k : Int) (y : Bool) w' => Ext w w' ∧ ∃ l, OutL w.heap.size w' r l ∧ AnsG (IdsAsked n) (sortI (indAll n).1, (((indAll n).2 : Nat) : Int)) ([], 0) (l, k) y) := by
  refine C_i_IndependentByIds ?_
  unfold V_i_IndependentByIds
  refine NEW_intro fun p w1 hp hs hE hb1 => LD_box3 hb1 ?_
  replace h := h.ext hE
  refine call (isNetwork_ok h hn.2.2.1) ?_
  rintro x w2 ⟨hx, hE2⟩
  replace h := h.ext hE2
  replace hb1 := hb1.ext hE2
  replace hE := hE.ext hE2
  refine cond_not (fun hf => ⟨hE, [], OutL.nil _ _, .no fun hg => ?_⟩) (fun ht => LD_bs1 hb1 ?_)
  · rw [hx.2 hg.good] at hf; cases hf
  have hg := hx.1 ht
  rw [h.2.1.len]
  refine cond_eq (fun h0 => ⟨hE, [], OutL.nil _ _, .no fun hg => hg.ids (by omega)⟩) (fun h0 => LD_box3 hb1 ?_)
  have hA : IdsAsked n := ⟨hg, by omega⟩
  refine call (independentByIds_ok h hA) ?_
  rintro r k w4 ⟨hE4, hO, rfl, hI, hl⟩
  exact ⟨hE.trans hE4, _, ⟨hO.low hE.size_le, sortI_I64 hI, by rw [sortI_len]; omega⟩, .yes hA⟩

/-! ### The reference's side -/

theorem all_take_succ {l : List Int} {i : Nat} (hi : i < l.length) (p : Int → Bool) : (l.take (i + 1)).all p = ((l.take i).all p && p l[i]) := by
  rw [List.take_succ_eq_append_getElem hi, List.all_append]; simp

theorem least_all {n : Net} (hA : IdsAsked n) {O : List Int} {v : Nat} (hv : v < n.ends.length) (hself : (adjOf n.ends v).contains (v : Int) = false) :
    ((adjOf n.ends v).all fun u => !O.contains u || decide (idZ n (v : Int) < idZ n u)) = leastB n O (v : Int) := by
  have hlen := hA.len
  unfold leastB
  rw [Int.toNat_natCast, Bool.eq_iff_iff, List.all_eq_true, Bool.not_eq_true', List.any_eq_false]
  have key : ∀ u ∈ adjOf n.ends v, idZ n u ≠ idZ n (v : Int) := by
    intro u hu he
    obtain ⟨k, rfl, hk⟩ := adj_ok hA.good hv u hu
    have hkv : k ≠ v := by
      rintro rfl
      simp only [List.contains_eq_mem, decide_eq_false_iff_not] at hself
      exact hself hu
    have hn := List.pairwise_iff_getElem.1 hA.good.ids.2.1
    simp only [idZ, Int.toNat_natCast, List.getD_eq_getElem?_getD] at he
    rw [List.getElem?_eq_getElem (by omega), List.getElem?_eq_getElem (by omega)] at he
    simp only [Option.getD_some] at he
    rcases Nat.lt_or_gt_of_ne hkv with h1 | h1
    · exact hn k v (by omega) (by omega) h1 he
    · exact hn v k (by omega) (by omega) h1 he.symm
  constructor
  · intro h1 u hu
    have h2 := h1 u hu
    have := key u hu
    simp only [Bool.or_eq_true, Bool.not_eq_true', decide_eq_true_eq] at h2
    simp only [Bool.and_eq_true, decide_eq_true_eq, not_and]
    intro h3
    rcases h2 with h2 | h2
    · rw [h3] at h2; cases h2
    · omega
  · intro h1 u hu
    have h2 := h1 u hu
    have := key u hu
    simp only [Bool.and_eq_true, decide_eq_true_eq, not_and] at h2
    simp only [Bool.or_eq_true, Bool.not_eq_true', decide_eq_true_eq]
    cases hc : O.contains u
    · exact .inl rfl
    · have := h2 hc; right; omega

theorem sind_k1 {w w0 : World} {a b c : Sl} {n : Net} {p : Addr} {t : TypeId} (h : RNet w a b c n) (hb : Box w p t [a.v, b.v, c.v]) (hA : IdsAsked n) (hE0 : Ext w0 w) :
    V_s_IndependentByIds_k1 (fun r k y w' => Ext w0 w' ∧ ∃ l, R w' r l ∧ AnsG (IdsAsked n) (sortI (indAll n).1, (((indAll n).2 : Nat) : Int)) ([], 0) (l, k) y) p w := by
  unfold V_s_IndependentByIds_k1
  have h40 := hA.good.size.2
  have hlen := hA.len
  have hol := openOf_len n
  refine LD_bs0 hb ?_
  rw [h.1.len]
  refine ⟨IN2 n.ends.length fun i o w' => Ext w w' ∧ OwnL w' w.heap.size T.t_int o ((upTo i).filter fun x => !(adjOf n.ends x.toNat).contains x), MN2 n.ends.length, IN2_zero ⟨Ext.refl _, by simpa [upTo] using OwnL.nil _ _ _⟩, ?_⟩
  rintro o _ w3 ⟨i, rfl, hi, hE3, hO3⟩
  intros
  refine cond_dec (fun hlt => ?_) (fun hge => ?_)
  · have hi' : i < n.ends.length := by omega
    have hfl : ((upTo i).filter fun x => !(adjOf n.ends x.toNat).contains x).length ≤ 40 := Nat.le_trans (List.length_filter_le _ _) (by rw [upTo_len]; omega)
    refine LD_box3 (hb.ext hE3) ?_
    refine call (mtOwn_ok (h.ext hE3) hA.good hi') ?_
    rintro x w4 ⟨rfl, hE4⟩
    replace hE3 := hE3.ext hE4
    replace hO3 := hO3.ext hE4
    refine cond_not (fun hf => ?_) (fun ht => IN2_next (by omega) hi' ⟨hE3, by rw [filter_upTo_succ, if_neg (by simpa using ht)]; simpa using hO3⟩)
    refine RUN_lit1 (α := Int) slt_int (i : Int) rfl (by decide) fun r w5 hE5 hO5 => ?_
    replace hE3 := hE3.ext hE5
    replace hO3 := hO3.ext hE5
    refine RUN_append (α := Int) slt_int hO3 hE3.size_le (hO5.rep (by intro z hz; simp at hz; subst hz; show I64 _; unfold I64; omega)).any (by simp only [List.length_singleton]; omega) (by simp only [List.length_singleton, maxLen]; omega) fun r' w6 hO6 hs6 => ?_
    refine IN2_next (by omega) hi' ⟨hs6.ext0 hE3 (fun k hk => (hO3.blk k hk).1), ?_⟩
    rw [filter_upTo_succ, if_pos (by simpa using hf)]
    exact hO6
  have : i = n.ends.length := by omega
  subst this
  have hopenI := (openOf_ok n).I64 hA.good
  have hnd0 : (openOf n).Nodup := by
    unfold openOf upTo
    refine List.Pairwise.filter _ ?_
    rw [List.pairwise_map]
    exact List.nodup_range.imp (fun h => by omega)
  refine ⟨fun op st rounds w' => ∃ (O S m : List Int) (f r : Nat), rounds = (r : Int) ∧ r + O.length ≤ 40 ∧ Ext w w' ∧ R w' op O ∧ R w' st m ∧ m.Pairwise (· < ·) ∧ (∀ x, x ∈ m ↔ x ∈ S) ∧ m.length ≤ S.length ∧ OpenOk n O ∧ S.length + O.length ≤ 40 ∧ S.Nodup ∧ O.Nodup ∧ (∀ x ∈ S, x ∉ O) ∧ O.length ≤ f ∧ indRun n f O S r = indAll n,
    fun op _ _ _ => op.len, ⟨openOf n, [], [], 40, 0, rfl, by omega, hE3, (hO3.rep hopenI).any, (OutL.nil 0 _).rep, by simp, by simp, by simp, openOf_ok n, by simp; omega, by simp, hnd0, by simp, by omega, rfl⟩, ?_⟩
  rintro op st _ w8 ⟨O, S, m, f, r, rfl, hr40, hE8, hOp, hm, hsd, hmem, hml, hOk, hSO, hSn, hOn, hdis, hf, hrun⟩
  intros
  have hOI := hOk.I64 hA.good
  rw [hOp.len]
  refine cond_dec (fun hpos => ?_) (fun hnp => ?_)
  rotate_left
  · have hO0 : O = [] := List.length_eq_zero_iff.1 (by omega)
    subst hO0
    rw [indRun_nil] at hrun
    rw [← hrun, ← eq_sortI hsd hSn hmem]
    exact ⟨hE0.trans hE8, m, hm, .yes hA⟩
  have hOne : O ≠ [] := by intro h0; subst h0; simp at hpos
  replace h := h.ext hE8
  replace hb := hb.ext hE8
  refine ⟨fun st' jn x w' => ∃ i : Nat, x = (i : Int) ∧ i ≤ O.length ∧ Ext w8 w' ∧ ∃ m', SlR (fun b => ¬ oB jn b) w' st' m' ∧ m'.Pairwise (· < ·) ∧ (∀ x, x ∈ m' ↔ x ∈ S ∨ x ∈ (O.take i).filter (leastB n O)) ∧ m'.length ≤ S.length + ((O.take i).filter (leastB n O)).length ∧ OwnL w' w8.heap.size T.t_int jn ((O.take i).filter (leastB n O)), fun _ _ x _ => O.length - x.toNat,
    ⟨0, rfl, by omega, Ext.refl _, m, hm.weak (fun b _ _ hk => by cases hk) RepP.pos, hsd, by simpa using hmem, by simpa using hml, by simpa using OwnL.nil _ _ _⟩, ?_⟩
  rintro st' jn _ w9 ⟨i, rfl, hi, hE9, m', hm', hsd', hmem', hml', hOj⟩
  intros
  refine cond_dec (fun hlt => ?_) (fun hge => ?_)
  · have hi' : i < O.length := by omega
    have hfl : ((O.take i).filter (leastB n O)).length ≤ 40 := Nat.le_trans (List.length_filter_le _ _) (by simp; omega)
    refine (hOp.ext hE9).ixI hi' fun q h64 hc => LD_int hc ?_
    obtain ⟨v, hv, hvl, hself⟩ := hOk _ (List.getElem_mem hi')
    have hstep := filter_take_succ hi' (leastB n O)
    rw [hv] at hstep h64 ⊢
    refine LD_box3 (hb.ext hE9) ?_
    refine call (neNear_ok (h.ext hE9) hA.good hvl) ?_
    rintro na w10 ⟨hE10, hOa⟩
    have hRa := (hOa.rep (adj_I64 hA.good hvl)).any
    rw [hRa.len]
    refine ⟨IN2 (adjOf n.ends v).length fun j x w' => Ext w10 w' ∧ x = ((adjOf n.ends v).take j).all (fun u => !O.contains u || decide (idZ n (v : Int) < idZ n u)), MN2 (adjOf n.ends v).length, IN2_zero ⟨Ext.refl _, by simp⟩, ?_⟩
    rintro x _ w11 ⟨j, rfl, hj, hE11, hx⟩
    intros
    have hE911 := hE10.trans hE11
    refine cond_dec (fun hlt2 => ?_) (fun hge2 => ?_)
    · have hj' : j < (adjOf n.ends v).length := by omega
      refine (hRa.ext hE11).ixI hj' fun q _ hc => LD_int hc ?_
      obtain ⟨u, hu, hul⟩ := adj_ok hA.good hvl _ (List.getElem_mem hj')
      have hst := all_take_succ hj' (fun u => !O.contains u || decide (idZ n (v : Int) < idZ n u))
      rw [hu] at hst ⊢
      have hvu : v < n.ids.length := by omega
      have huu : u < n.ids.length := by omega
      refine cond_b (fun hxt => ?_) (fun hxf w14 hE14 => IN2_next hRa.le hj' ⟨hE11.trans hE14, by rw [hst, ← hx, hxf]; rfl⟩)
      refine QCALL_bool (O.contains (u : Int)) (fun w' hw' => call (l1Has_ok ((hOp.ext (hE9.trans hE911)).ext hw') _) fun x w'' hx => ⟨hx.1, hx.2 ▸ Ext.refl _⟩) ?_
      refine cond_not (fun hc w12 hE12 => IN2_next hRa.le hj' ⟨hE11.trans hE12, by rw [hst, ← hx, hxt, hc]; rfl⟩) (fun hc => ?_)
      have hN := h.ext (hE9.trans hE911)
      have hB := hb.ext (hE9.trans hE911)
      refine LD_bs1 hB ?_
      refine hN.2.1.ixI hvu fun q _ hc1 => LD_int hc1 (LD_bs1 hB ?_)
      refine hN.2.1.ixI huu fun q _ hc1 => LD_int hc1 ?_
      intro w13 hE13
      refine IN2_next hRa.le hj' ⟨hE11.trans hE13, ?_⟩
      rw [hst, ← hx, hxt, hc]
      simp [idZ, hvu, huu]
    · have : j = (adjOf n.ends v).length := by omega
      subst this
      rw [List.take_length, least_all hA hvl hself] at hx
      have hm11 := hm'.ext hE911
      have hOj11 := hOj.ext hE911
      refine cond_b (fun hxt => ?_) (fun hxf => ?_)
      · refine RUN_lit1 (α := Int) slt_int (v : Int) rfl (by decide) fun r1 w15 hE15 hO15 => ?_
        have hm15 := hm11.ext hE15
        have hOj15 := hOj11.ext hE15
        have hE15' := (hE9.trans hE911).trans hE15
        refine RUN_appendF (α := Int) slt_int hOj15 hE15'.size_le (hO15.rep (by intro z hz; simp at hz; subst hz; exact h64)).any (by simp; omega) (by simp [maxLen]; omega) fun jn' w16 hO16 hs16 hnew => ?_
        have hE16 := hs16.ext0 hE15' (fun k hk => (hOj15.blk k hk).1)
        have hm16 : SlR (fun b => ¬ oB jn' b) w16 st' m' := by
          refine (hm15.below.stepD hs16 fun b hb he => hb.1 he).weak (fun b hb _ hk => ?_) RepP.pos
          rcases hnew with h1 | h1
          · exact hb.1 (by unfold oB; rw [← h1]; exact hk)
          · have := h1 b hk; have := hb.2; omega
        refine call (l1Put_D hm16 (by omega) hsd' h64) ?_
        rintro r3 w17 ⟨hE17, m2, hm2, hsd2, hmem2, hml2⟩
        have hj16 := hO16.blk
        rw [wrap_of (by omega) (by omega)]
        refine ⟨⟨i + 1, by omega, by omega, hE16.trans hE17, m2, hm2.weak (fun b hb _ hk => ?_) RepP.pos, hsd2, fun x => ?_, ?_, ?_⟩, by show O.length - (_ : Int).toNat < O.length - (_ : Int).toNat; omega⟩
        · rcases hb with h1 | h1
          · exact h1 hk
          · have := (hj16 b hk).2; omega
        · rw [hmem2, hmem', hstep, if_pos (by rw [← hx]; exact hxt), List.mem_append, List.mem_singleton, or_assoc]
        · rw [hstep, if_pos (by rw [← hx]; exact hxt)]
          simp; omega
        · rw [hstep, if_pos (by rw [← hx]; exact hxt)]
          exact hO16.ext hE17
      · rw [wrap_of (by omega) (by omega)]
        rw [if_neg (by rw [← hx, hxf]; simp), List.append_nil] at hstep
        exact ⟨⟨i + 1, by omega, by omega, hE9.trans hE911, m', hm11, hsd', by rw [hstep]; exact hmem', by rw [hstep]; exact hml', by rw [hstep]; exact hOj11⟩, by show O.length - (_ : Int).toNat < O.length - (_ : Int).toNat; omega⟩
  have : i = O.length := by omega
  subst this
  rw [List.take_length] at hOj hmem' hml'
  have hJ : O.filter (leastB n O) = joinOf n O := rfl
  rw [hJ] at hOj hmem' hml'
  have hjnle := join_next_le n O
  have hJI : ∀ x ∈ joinOf n O, I64 x := fun x hx => hOI x (List.mem_filter.1 hx).1
  have hRj := (hOj.rep hJI).any
  refine ⟨IN2 O.length fun i nx w' => Ext w9 w' ∧ OwnL w' w9.heap.size T.t_int nx ((O.take i).filter fun x => !goneB n (joinOf n O) x), MN2 O.length, IN2_zero ⟨Ext.refl _, by simpa using OwnL.nil _ _ _⟩, ?_⟩
  rintro nx _ w18 ⟨i, rfl, hi2, hE18, hOx⟩
  intros
  refine cond_dec (fun hlt => ?_) (fun hge => ?_)
  · have hi' : i < O.length := by omega
    have hfl : ((O.take i).filter fun x => !goneB n (joinOf n O) x).length ≤ 40 := Nat.le_trans (List.length_filter_le _ _) (by simp; omega)
    refine (hOp.ext (hE9.trans hE18)).ixI hi' fun q h64 hc => LD_int hc ?_
    obtain ⟨v, hv, hvl, hself⟩ := hOk _ (List.getElem_mem hi')
    have hstep := filter_take_succ hi' (fun x => !goneB n (joinOf n O) x)
    rw [hv] at hstep h64 ⊢
    refine call (l1Has_ok (hRj.ext hE18) _) ?_
    rintro y _ ⟨rfl, rfl⟩
    refine cond_not (fun hyf => LD_box3 (hb.ext (hE9.trans hE18)) ?_) (fun hyt => IN2_next hOp.le hi' ⟨hE18, by rw [hstep, if_neg (by simp only [goneB, hyt, Bool.true_or, Bool.not_true]; exact Bool.false_ne_true)]; simpa using hOx⟩)
    refine call (mtApart_ok (h.ext (hE9.trans hE18)) (hRj.ext hE18) hA.good hvl) ?_
    rintro z w20 ⟨hz, hE20⟩
    replace hE18 := hE18.ext hE20
    replace hOx := hOx.ext hE20
    have hg : (!goneB n (joinOf n O) (v : Int)) = z := by
      unfold goneB
      rw [hyf, Bool.eq_iff_iff, hz]
      simp
    refine cond_b (fun hzt => ?_) (fun hzf => IN2_next hOp.le hi' ⟨hE18, by rw [hstep, if_neg (by rw [hg, hzf]; simp)]; simpa using hOx⟩)
    refine RUN_lit1 (α := Int) slt_int (v : Int) rfl (by decide) fun r1 w21 hE21 hO21 => ?_
    replace hE18 := hE18.ext hE21
    replace hOx := hOx.ext hE21
    refine RUN_append (α := Int) slt_int hOx hE18.size_le (hO21.rep (by intro z hz; simp at hz; subst hz; exact h64)).any (by simp; omega) (by simp [maxLen]; omega) fun r' w22 hO22 hs22 => ?_
    refine IN2_next hOp.le hi' ⟨hs22.ext0 hE18 (fun k hk => (hOx.blk k hk).1), ?_⟩
    rw [hstep, if_pos (by rw [hg, hzt])]
    exact hO22
  have : i = O.length := by omega
  subst this
  rw [List.take_length] at hOx
  have hnx : O.filter (fun x => !goneB n (joinOf n O) x) = nextOf n O := rfl
  rw [hnx] at hOx
  have hnI : ∀ x ∈ nextOf n O, I64 x := fun x hx => hOI x (List.mem_filter.1 hx).1
  have hRx := (hOx.rep hnI).any
  obtain ⟨f', rfl⟩ : ∃ f', f = f' + 1 := ⟨f - 1, by have := List.length_pos_iff.2 hOne; omega⟩
  have hnl := next_lt (n := n) hOne
  rw [wrap_of (by omega) (by omega)]
  refine ⟨⟨nextOf n O, S ++ joinOf n O, m', f', r + 1, by omega, by omega, hE8.trans (hE9.trans hE18), hRx, (hm'.any.ext hE18), hsd', fun x => by rw [hmem', List.mem_append], by rw [List.length_append]; exact hml', hOk.next, by simp; omega, ?_, List.Pairwise.filter _ hOn, ?_, by omega, by rw [← hrun, indRun_step n f' hOne]⟩, by show nx.len < op.len; rw [hRx.len, hOp.len]; exact hnl⟩
  · rw [List.nodup_append]
    refine ⟨hSn, List.Pairwise.filter _ hOn, fun x hx y hy he => ?_⟩
    subst he
    exact hdis x hx (List.mem_filter.1 hy).1
  · intro x hx hxn
    have hxn' := List.mem_filter.1 hxn
    rcases List.mem_append.1 hx with h1 | h1
    · exact hdis x h1 hxn'.1
    · have h2 := hxn'.2
      have h3 : (joinOf n O).contains x = true := by simpa using h1
      simp only [goneB, h3, Bool.true_or, Bool.not_true] at h2
      cases h2

theorem sIndependentByIds_ok {w : World} {a b c : Sl} {n : Net} (h : RNet w a b c n) :
    Calls Try.prog F.s_IndependentByIds #[.agg #[a.v, b.v, c.v]] w (Ret [.at .sl, .at (.int .i64), .at .bool] fun (r : Sl) (k : Int) (y : Bool) w' => Ext w w' ∧ ∃ l, R w' r l ∧ AnsG (IdsAsked n) (sortI (indAll n).1, (((indAll n).2 : Nat) : Int)) ([], 0) (l, k) y) := by
  refine C_s_IndependentByIds ?_
  unfold V_s_IndependentByIds
  refine NEW_intro fun p w1 hp hs hE hb1 => LD_box3 hb1 ?_
  replace h := h.ext hE
  refine call (neGood_ok h) ?_
  rintro x w2 ⟨hx, hE2⟩
  replace h := h.ext hE2
  replace hb1 := hb1.ext hE2
  replace hE := hE.ext hE2
  refine cond_not (fun hf => ⟨hE, [], (OutL.nil 0 _).rep, .no fun hg => ?_⟩) (fun ht => LD_bs1 hb1 ?_)
  · rw [hx.2 hg.good] at hf; cases hf
  have hg := hx.1 ht
  rw [h.2.1.len]
  refine cond_eq (fun h0 => ⟨hE, [], (OutL.nil 0 _).rep, .no fun hg => hg.ids (by omega)⟩) (fun h0 => sind_k1 h hb1 ⟨hg, by omega⟩ hE)

end Go.Proofs.Ytcilbmkieclelaa
