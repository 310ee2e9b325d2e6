/- RulingByIds, both sides. -/
import Derived.Test.YtcilbmkieclelaaDom
import Derived.Test.YtcilbmkieclelaaMark
import Derived.Test.YtcilbmkieclelaaOrder
import Derived.Test.YtcilbmkieclelaaDelete
namespace Go.Proofs.Ytcilbmkieclelaa
open Go.GX Go.RowKit
set_option maxRecDepth 100000

/-- The identifier of a node without its last j digits. -/
def top (n : Net) (v j : Nat) : Nat := (n.ids.getD v 0).toNat / 2 ^ j

def leaveB (n : Net) (inB : Nat → Bool) (v j : Nat) : Bool :=
  decide (top n v j % 2 = 1) && (adjOf n.ends v).any fun u => inB u.toNat && decide (top n u.toNat j + 1 = top n v j)

def inRule (n : Net) : Nat → Nat → Bool
  | 0 => fun _ => true
  | j + 1 => fun v => inRule n j v && !leaveB n (inRule n j) v j

def setR (n : Net) (j : Nat) : List Int := (upTo n.ends.length).filter fun x => inRule n j x.toNat

theorem mem_upTo {k : Nat} {x : Int} : x ∈ upTo k ↔ ∃ u : Nat, x = u ∧ u < k := by
  unfold upTo
  simp only [List.mem_map, List.mem_range]
  exact ⟨fun ⟨u, h1, h2⟩ => ⟨u, h2.symm, h1⟩, fun ⟨u, h1, h2⟩ => ⟨u, h2, h1.symm⟩⟩

theorem mem_setR {n : Net} {j u : Nat} (hu : u < n.ends.length) : (setR n j).contains (u : Int) = inRule n j u := by
  rw [Bool.eq_iff_iff]
  simp only [List.contains_eq_mem, decide_eq_true_eq, setR, List.mem_filter, mem_upTo, Int.toNat_natCast]
  exact ⟨fun h => h.2, fun h => ⟨⟨u, rfl, hu⟩, h⟩⟩

theorem setR_node {n : Net} {j : Nat} : ∀ x ∈ setR n j, ∃ u : Nat, x = u ∧ u < n.ends.length := fun x hx => by
  simp only [setR, List.mem_filter] at hx
  exact mem_upTo.1 hx.1

theorem setR_I64 {n : Net} (hg : Good n) {j : Nat} : ∀ x ∈ setR n j, I64 x := fun x hx => by
  obtain ⟨u, rfl, hu⟩ := setR_node x hx
  have := hg.size.2
  unfold I64; omega

theorem setR_len (n : Net) (j : Nat) : (setR n j).length ≤ n.ends.length := by
  unfold setR
  exact Nat.le_trans (List.length_filter_le _ _) (by rw [upTo_len]; exact Nat.le_refl _)

structure IdsAsked (n : Net) : Prop where
  good : Good n
  ids : n.ids.length ≠ 0

theorem IdsAsked.len {n : Net} (h : IdsAsked n) : n.ids.length = n.ends.length := by
  rcases h.good.ids.2.2 with h1 | h1
  · exact absurd h1 h.ids
  · exact h1

theorem IdsAsked.at {n : Net} (h : IdsAsked n) {v : Nat} (hv : v < n.ids.length) : ∃ m : Nat, n.ids[v] = m ∧ m < 1000000 ∧ ∀ j, top n v j = m / 2 ^ j := by
  have := h.good.ids.1 _ (List.getElem_mem hv)
  obtain ⟨m, hm⟩ := Int.eq_ofNat_of_zero_le (a := n.ids[v]) (by omega)
  exact ⟨m, hm, by omega, fun j => by simp [top, hv, hm]⟩

/-- A shifted identifier. -/
theorem IdsAsked.shr {n : Net} (h : IdsAsked n) {v : Nat} (hv : v < n.ids.length) {j : Nat} (hj : j < 20) : I64 n.ids[v] ∧ shrI .i64 n.ids[v] j = (top n v j : Int) ∧ top n v j < 1000000 ∧ ∃ m : Nat, n.ids[v] = m ∧ m < 1000000 ∧ top n v j = m / 2 ^ j := by
  obtain ⟨m, hm, hm2, ht⟩ := h.at hv
  have h64 : j ≤ IntKind.i64.bits := by show j ≤ 64; omega
  have hle : m / 2 ^ j ≤ m := Nat.div_le_self _ _
  rw [ht j, hm]
  refine ⟨by unfold I64; omega, by rw [shr_nat _ _ _ h64], ?_, m, rfl, hm2, rfl⟩
  exact Nat.lt_of_le_of_lt hle hm2

theorem ruling11 {n : Net} (hA : IdsAsked n) {w : World} {a b c : Sl} (h : RNet w a b c n) {pn pb pv pj : Addr} {tn tb tv tj : TypeId} {sb : Sl} {B : List Int} {v j : Nat}
    (hbn : Box w pn tn [a.v, b.v, c.v]) (hbb : Box w pb tb [sb.v]) (hB : R w sb B) (hbv : Box w pv tv [.int .i64 (v : Int)]) (hbj : Box w pj tj [.int .i64 (j : Int)]) (hv : v < n.ends.length) (hj : j < 20) :
    AnswersG argsE w (.func (.func F.i_RulingByIds_1_1) #[] #[.pointer (some pb), .pointer (some pn), .pointer (some pv), .pointer (some pj)]) n.ends[v] (fun e => B.contains e.1 && (decide (top n e.1.toNat j + 1 = top n v j) && decide (top n v j % 2 = 1))) := by
  intro e he w1 hE1
  replace h := h.ext hE1
  replace hbn := hbn.ext hE1
  replace hbb := hbb.ext hE1
  replace hB := hB.ext hE1
  replace hbv := hbv.ext hE1
  replace hbj := hbj.ext hE1
  have hlen := hA.len
  obtain ⟨i, hi, rfl⟩ := List.mem_iff_getElem.1 he
  obtain ⟨u, y, hxy, hu, _⟩ := hA.good.far hv hi
  rw [hxy]
  obtain ⟨_, hsv, htv, _⟩ := hA.shr (v := v) (by omega) hj
  obtain ⟨_, hsu, htu, _⟩ := hA.shr (v := u) (by omega) hj
  refine CALLV_mk (by kernel_rfl) (C_i_RulingByIds_1_1 ?_)
  unfold V_i_RulingByIds_1_1
  refine NEW_intro fun pe w2 hpe hs2 hE2 hbe => ?_
  replace h := h.ext hE2
  replace hbn := hbn.ext hE2
  replace hbb := hbb.ext hE2
  replace hB := hB.ext hE2
  replace hbv := hbv.ext hE2
  replace hbj := hbj.ext hE2
  refine LD_bs hbb (LD_bi0 hbe ?_)
  refine QCALL_bool (B.contains (u : Int)) (fun w' hw' => call (contains_ok (hB.ext hw') _) fun x w'' hx => ⟨hx.1, hx.2 ▸ Ext.refl _⟩) ?_
  simp only [Int.toNat_natCast]
  refine cond_b (fun ht => ?_) (fun hf => ?_)
  · refine LD_bs1 hbn (LD_bi hbv ?_)
    refine h.2.1.ixI (i := v) (by omega) fun q _ hc => LD_int hc (LD_bi hbj ⟨by omega, ?_⟩)
    refine LD_bs1 hbn (LD_bi0 hbe ?_)
    refine h.2.1.ixI (i := u) (by omega) fun q _ hc => LD_int hc (LD_bi hbj ⟨by omega, ?_⟩)
    rw [hsv, hsu, wrap_of (by omega) (by omega)]
    refine cond_eq (fun heq => ?_) (fun hne => ?_)
    · refine LD_bs1 hbn (LD_bi hbv ?_)
      refine h.2.1.ixI (i := v) (by omega) fun q _ hc => LD_int hc (LD_bi hbj ⟨by omega, ?_⟩)
      intro w3 hE3
      refine ⟨?_, hE2.trans hE3⟩
      rw [hsv]
      have hb1 := bitAnd_i64 (top n v j) 1 (by omega) (by omega)
      rw [show ((1 : Nat) : Int) = 1 from rfl, Nat.and_one_is_mod] at hb1
      rw [hb1, ht, Bool.eq_iff_iff]
      simp only [beq_iff_eq, Bool.true_and, Bool.and_eq_true, decide_eq_true_eq]
      omega
    · intro w3 hE3
      refine ⟨?_, hE2.trans hE3⟩
      rw [ht]
      symm
      simp only [Bool.true_and, Bool.and_eq_false_iff, decide_eq_false_iff_not]
      left; omega
  · intro w3 hE3
    exact ⟨by simp only [hf, Bool.false_and], hE2.trans hE3⟩

theorem any_leave {n : Net} (v j : Nat) (inB : Nat → Bool) (B : List Int) (hB : ∀ e ∈ rowOf n.ends v, B.contains e.1 = inB e.1.toNat) :
    ((rowOf n.ends v).any fun e => B.contains e.1 && (decide (top n e.1.toNat j + 1 = top n v j) && decide (top n v j % 2 = 1))) = leaveB n inB v j := by
  rw [Bool.eq_iff_iff]
  unfold leaveB adjOf
  simp only [List.any_eq_true, Bool.and_eq_true, decide_eq_true_eq, List.any_map, Function.comp]
  constructor
  · rintro ⟨e, he, h1, h2, h3⟩
    exact ⟨h3, e, he, by rw [← hB e he]; exact h1, h2⟩
  · rintro ⟨h3, e, he, h1, h2⟩
    exact ⟨e, he, by rw [hB e he]; exact h1, h2, h3⟩

theorem setR_succ (n : Net) (j : Nat) : (setR n j).filter (fun x => !leaveB n (inRule n j) x.toNat j) = setR n (j + 1) := by
  unfold setR
  rw [List.filter_filter]
  congr 1
  funext x
  simp only [inRule]
  exact Bool.and_comm _ _

theorem ruling_k1 {w w0 : World} {a b c : Sl} {n : Net} {p : Addr} {t : TypeId} (h : RNet w a b c n) (hb : Box w p t [a.v, b.v, c.v]) (hA : IdsAsked n) (hE0 : Ext w0 w) :
    V_i_RulingByIds_k1 (fun r k y w' => Ext w0 w' ∧ ∃ l, OutL w0.heap.size w' r l ∧ AnsG (IdsAsked n) (setR n 20, (20 : Int)) ([], 0) (l, k) y) p w := by
  unfold V_i_RulingByIds_k1
  have h40 := hA.good.size.2
  refine LD_bs0 hb ?_
  rw [h.1.len]
  refine call (numbersTo_ok n.ends.length (by omega) w) ?_
  rintro r0 w4 ⟨hE4, hO4⟩
  refine ⟨IN2 20 fun j s w' => Ext w w' ∧ OwnL w' w.heap.size T.t_int s (setR n j), MN2 20, IN2_zero ⟨hE4, ?_⟩, ?_⟩
  · have : setR n 0 = upTo n.ends.length := by unfold setR; rw [List.filter_eq_self.2]; intro x _; rfl
    rw [this]; exact hO4
  rintro s _ w5 ⟨j, rfl, hj, hE5, hO⟩
  intros
  refine cond_dec (fun hlt => ?_) (fun hge => ?_)
  · have hj' : j < 20 := by omega
    have hsl := setR_len n j
    refine NEW_ST (by intro v hv; simp at hv; subst hv; rfl) rfl fun pj w7 hpj hE7 hbj => ?_
    have hO7 := hO.ext hE7
    have hsb := hO.blk
    refine call (clone_ok (hO7.rep (setR_I64 hA.good)).any (by omega)) ?_
    rintro sb w8 ⟨hE8, hOb⟩
    refine NEW_ST (by intro v hv; simp at hv; subst hv; rfl) rfl fun pb w10 hpb hE10 hbb => ?_
    have hRb := (hOb.rep (setR_I64 hA.good)).ext hE10
    have hbj10 := (hbj.ext hE8).ext hE10
    have hO10 := (hO7.ext hE8).ext hE10
    have hE510 := hE7.trans (hE8.trans hE10)
    have hE10' := hE5.trans hE510
    refine call (deleteFunc_ok (p := fun x => leaveB n (inRule n j) x.toNat j) hO10 (setR_I64 hA.good) (by omega) ?_) ?_
    · intro x hx w' hC
      obtain ⟨v, rfl, hv⟩ := setR_node x hx
      have hE' : Ext w w' := hC.ext0 hE10' fun k hk => (hsb k hk).1
      have hz7 := hE7.size_le
      have hz8 := hE8.size_le
      have hno : ∀ k, oB s k → k < w5.heap.size := fun k hk => (hsb k hk).2
      have hbb' := hbb.chg hC fun hk => by have := hno _ hk; omega
      have hbj' := hbj10.chg hC fun hk => by have := hno _ hk; omega
      have hRb' : R w' sb (setR n j) := (hRb.chg hC fun b hb _ hk => by have := hno _ hk; omega).any
      refine CALLV_mk (by kernel_rfl) (C_i_RulingByIds_1 ?_)
      unfold V_i_RulingByIds_1
      refine NEW_intro fun pv w11 hpv hs11 hE11 hbv => ?_
      have h11 := (h.ext hE').ext hE11
      have hb11 := (hb.ext hE').ext hE11
      refine LD_bs0 hb11 (LD_bi hbv ?_)
      refine h11.1.ixL hv fun q s1 hR hc => LD_sl hc ?_
      refine call (containsFuncE_ok hR (ruling11 hA h11 hb11 (hbb'.ext hE11) (hRb'.ext hE11) hbv (hbj'.ext hE11) hv hj')) ?_
      rintro y w12 ⟨rfl, hE12⟩
      refine ⟨?_, hE11.trans hE12⟩
      have := any_leave (n := n) v j (inRule n j) (setR n j) (by
        intro e he
        rw [rowOf_get hv] at he
        obtain ⟨i, hi, rfl⟩ := List.mem_iff_getElem.1 he
        obtain ⟨u, y, hxy, hu, _⟩ := hA.good.far hv hi
        rw [hxy]
        exact mem_setR hu)
      rw [rowOf_get hv] at this
      rw [this]
      simp
    · rintro r w11 ⟨hC, hOr, hra⟩
      refine IN2_next (by omega) hj' ⟨hC.ext0 hE10' fun k hk => (hsb k hk).1, ?_⟩
      rw [← setR_succ]
      exact hOr
  · have : j = 20 := by omega
    subst this
    have hsl := setR_len n 20
    exact ⟨hE0.trans hE5, _, ⟨hO.low hE0.size_le, setR_I64 hA.good, by omega⟩, .yes hA⟩

theorem RulingByIds_ok {w : World} {a b c : Sl} {n : Net} (h : RNet w a b c n) (hn : Small n) :
    Calls Try.prog F.i_RulingByIds #[.agg #[a.v, b.v, c.v]] w (Ret [.at .sl, .at (.int .i64), .at .bool] fun (r : Sl) (k : Int) (y : Bool) w' => Ext w w' ∧ ∃ l, OutL w.heap.size w' r l ∧ AnsG (IdsAsked n) (setR n 20, (20 : Int)) ([], 0) (l, k) y) := by
  refine C_i_RulingByIds ?_
  unfold V_i_RulingByIds
  refine NEW_intro fun p w1 hp hs hE hb1 => LD_box3 hb1 ?_
  replace h := h.ext hE
  refine call (isNetwork_ok h hn.2.2.1) ?_
  rintro x w2 ⟨hx, hE2⟩
  replace h := h.ext hE2
  replace hb1 := hb1.ext hE2
  replace hE := hE.ext hE2
  refine cond_not (fun hf => ⟨hE, [], OutL.nil _ _, .no fun hg => ?_⟩) (fun ht => LD_bs1 hb1 ?_)
  · rw [hx.2 hg.good] at hf; cases hf
  have hg := hx.1 ht
  rw [h.2.1.len]
  refine cond_eq (fun h0 => ⟨hE, [], OutL.nil _ _, .no fun hg => hg.ids (by omega)⟩) (fun h0 => ruling_k1 h hb1 ⟨hg, by omega⟩ hE)

/-! ### The reference's side -/

theorem nuBit_ok (m j : Nat) (hm : m < 1000000) (hj : j < 64) (w : World) :
    Calls Try.prog F.s_nuBit #[.int .i64 m, .int .i64 j] w (Ret [.at (.int .i64)] fun (r : Int) w' => r = ((m / 2 ^ j % 2 : Nat) : Int) ∧ w = w') := by
  refine C_s_nuBit ?_
  unfold V_s_nuBit
  refine ⟨fun x i w' => w = w' ∧ ∃ y k : Nat, x = y ∧ i = k ∧ y < 1000000 ∧ y / 2 ^ k = m / 2 ^ j ∧ k < 64, fun _ i _ => i.toNat, ⟨rfl, m, j, rfl, rfl, hm, rfl, hj⟩, ?_⟩
  rintro _ _ _ ⟨rfl, y, k, rfl, rfl, hy, hyk, hk⟩
  intros
  refine cond_dec (fun hpos => ⟨by decide, ?_⟩) (fun hnp => ⟨by decide, ?_, rfl⟩)
  · have hd : Int.tdiv (y : Int) 2 = ((y / 2 : Nat) : Int) := by rw [Int.tdiv_eq_ediv_of_nonneg (by omega)]; omega
    rw [hd, wrap_of (by omega) (by omega), wrap_of (by omega) (by omega)]
    refine ⟨⟨rfl, y / 2, k - 1, rfl, by omega, by omega, ?_, by omega⟩, by show (_ : Int).toNat < (_ : Int).toNat; omega⟩
    rw [← hyk, Nat.div_div_eq_div_mul, ← Nat.pow_succ', show (k - 1).succ = k by omega]
  · have hk0 : k = 0 := by omega
    subst hk0
    rw [Nat.pow_zero, Nat.div_one] at hyk
    rw [← hyk, Int.tmod_eq_emod_of_nonneg (by omega)]
    omega

def inL (n : Net) (j : Nat) : List Bool := (List.range n.ends.length).map (inRule n j)
theorem inL_len (n : Net) (j : Nat) : (inL n j).length = n.ends.length := by simp [inL]
theorem inL_get (n : Net) (j v : Nat) (h : v < (inL n j).length) : (inL n j)[v] = inRule n j v := by simp [inL]

theorem ruLeaves_ok {w : World} {a b c s : Sl} {n : Net} (h : RNet w a b c n) (hA : IdsAsked n) {v j : Nat} (hv : v < n.ends.length) (hj : j < 20) (hs : R w s (inL n j)) :
    Calls Try.prog F.s_ruLeaves #[.agg #[a.v, b.v, c.v], s.v, .int .i64 v, .int .i64 j] w (Ret [.at .bool] fun (x : Bool) w' => x = leaveB n (inRule n j) v j ∧ Ext w w') := by
  refine C_s_ruLeaves ?_
  unfold V_s_ruLeaves
  have hlen := hA.len
  refine NEW_intro fun p w1 hp hs1 hE hb1 => LD_bs1 hb1 ?_
  replace h := h.ext hE
  replace hs := hs.ext hE
  obtain ⟨_, hsv, htv, mv, hmv, hmv2, hmt⟩ := hA.shr (v := v) (by omega) hj
  refine h.2.1.ixI (i := v) (by omega) fun q _ hc => LD_int hc ?_
  rw [hmv] at hsv ⊢
  refine call (nuBit_ok mv j hmv2 (by omega) w1) ?_
  rw [← hmt]
  rintro x _ ⟨rfl, rfl⟩
  refine cond_eq (fun h0 => ⟨?_, hE⟩) (fun h0 => LD_box3 hb1 ?_)
  · symm
    unfold leaveB
    rw [Bool.and_eq_false_iff, decide_eq_false_iff_not]
    left; omega
  have hodd : top n v j % 2 = 1 := by omega
  refine call (neNear_ok h hA.good hv) ?_
  rintro r w3 ⟨hE3, hO⟩
  have hR := (hO.rep (adj_I64 hA.good hv)).any
  replace h := h.ext hE3
  replace hs := hs.ext hE3
  replace hb1 := hb1.ext hE3
  replace hE := hE.ext hE3
  rw [hR.len, wrap_u64 (by omega) (by omega)]
  refine ⟨IN (adjOf n.ends v).length fun i w' => w3 = w' ∧ ∀ u ∈ (adjOf n.ends v).take i, (inRule n j u.toNat && decide (top n u.toNat j + 1 = top n v j)) = false, MN (adjOf n.ends v).length, IN_zero ⟨rfl, by simp⟩, ?_⟩
  rintro _ w4 ⟨i, rfl, hi, rfl, ha⟩
  intros
  refine cond_dec (fun hlt => ?_) (fun hge => ⟨?_, hE⟩)
  · have hi' : i < (adjOf n.ends v).length := by omega
    obtain ⟨u, hu, hul⟩ := adj_ok hA.good hv _ (List.getElem_mem hi')
    obtain ⟨_, hsu, htu, _⟩ := hA.shr (v := u) (by omega) hj
    have hstep : (inRule n j u && decide (top n u j + 1 = top n v j)) = false → ∀ x ∈ (adjOf n.ends v).take (i + 1), (inRule n j x.toNat && decide (top n x.toNat j + 1 = top n v j)) = false := fun hf => none_succ hi' ha (by rw [hu]; simpa using hf)
    refine hR.ixI hi' fun q _ hc => LD_int hc ?_
    rw [hu]
    refine hs.ixB (i := u) (by rw [inL_len]; exact hul) fun q hc => LD_bool hc ?_
    rw [inL_get]
    refine cond_b (fun ht => LD_bs1 hb1 ?_) (fun hf => IN_next hR.le hi' ⟨rfl, hstep (by simp [hf])⟩)
    refine h.2.1.ixI (i := u) (by omega) fun q _ hc => LD_int hc ⟨by omega, by omega, ?_⟩
    rw [hsu, hsv, wrap_of (by omega) (by omega)]
    refine cond_eq (fun heq => ⟨?_, hE⟩) (fun hne => IN_next hR.le hi' ⟨rfl, hstep ?_⟩)
    · symm
      unfold leaveB
      simp only [Bool.and_eq_true, decide_eq_true_eq, List.any_eq_true]
      refine ⟨hodd, _, List.getElem_mem hi', ?_⟩
      rw [hu]
      simp only [Int.toNat_natCast]
      exact ⟨ht, by omega⟩
    · rw [Bool.and_eq_false_iff, decide_eq_false_iff_not]
      right; omega
  · have : i = (adjOf n.ends v).length := by omega
    subst this
    rw [List.take_length] at ha
    symm
    unfold leaveB
    rw [Bool.and_eq_false_iff, List.any_eq_false]
    right
    intro x hx
    rw [ha x hx]; simp

theorem filter_upTo_succ (p : Int → Bool) (i : Nat) : (upTo (i + 1)).filter p = (upTo i).filter p ++ if p (i : Int) then [(i : Int)] else [] := by
  have : upTo (i + 1) = upTo i ++ [(i : Int)] := by simp [upTo, List.range_succ]
  rw [this, List.filter_append, List.filter_cons, List.filter_nil]

theorem sruling_k1 {w w0 : World} {a b c : Sl} {n : Net} {p : Addr} {t : TypeId} (h : RNet w a b c n) (hb : Box w p t [a.v, b.v, c.v]) (hA : IdsAsked n) (hE0 : Ext w0 w) :
    V_s_RulingByIds_k1 (fun r k y w' => Ext w0 w' ∧ ∃ l, R w' r l ∧ AnsG (IdsAsked n) (setR n 20, (20 : Int)) ([], 0) (l, k) y) p w := by
  unfold V_s_RulingByIds_k1
  have h40 := hA.good.size.2
  refine LD_bs0 hb ?_
  rw [h.1.len]
  refine RUN_make (α := Bool) slt_bool (d := false) rfl (by omega) (by unfold maxLen; omega) fun r0 w4 hE4 hO4 => ?_
  have hrl : r0.len = n.ends.length := by have := hO4.1; simpa using this
  rw [hrl]
  refine ⟨IN n.ends.length fun i w' => Ext w w' ∧ OwnL w' w.heap.size T.t_bool r0 (mapTo (fun _ => true) (List.replicate n.ends.length false) i), MN n.ends.length, IN_zero ⟨hE4, by rw [mapTo_zero]; exact hO4⟩, ?_⟩
  rintro _ w5 ⟨i, rfl, hi, hE5, hO⟩
  intros
  have hrepl : (List.replicate n.ends.length false).length = n.ends.length := by simp
  refine cond_dec (fun hlt => ?_) (fun hge => ?_)
  · have hi' : i < n.ends.length := by omega
    refine IX_own hO (by rw [mapTo_len _ (by omega)]; omega) rfl fun q hq => ?_
    refine ST_own hO (by rw [mapTo_len _ (by omega)]; omega) hq true rfl fun w6 hO6 hs6 => ?_
    refine IN_next (by omega) hi' ⟨hs6.ext0 hE5 (fun k hk => (hO.blk k hk).1), ?_⟩
    rw [← mapTo_set _ (by omega)]
    exact hO6
  have : i = n.ends.length := by omega
  subst this
  have hall : mapTo (fun _ => true) (List.replicate n.ends.length false) n.ends.length = inL n 0 := by
    have := mapTo_all (fun _ => true) (List.replicate n.ends.length false)
    rw [hrepl] at this
    rw [this]; rfl
  rw [hall] at hO
  refine ⟨IN2 20 fun j s w' => Ext w w' ∧ OwnL w' w.heap.size T.t_bool s (inL n j), MN2 20, IN2_zero ⟨hE5, hO⟩, ?_⟩
  rintro s _ w7 ⟨j, rfl, hj, hE7, hOs⟩
  intros
  have hsl : s.len = n.ends.length := by rw [hOs.1, inL_len]
  have hill := inL_len n j
  have hRs := (hOs.rep fun _ _ => trivial).any
  refine cond_dec (fun hlt => ?_) (fun hge => ?_)
  · have hj' : j < 20 := by omega
    refine RUN_lit0 (α := Bool) slt_bool fun r1 w8 hE8 hO8 => ?_
    refine RUN_append (α := Bool) slt_bool hO8 hE8.size_le (hRs.ext hE8) (by simp [hill]; omega) (by simp [maxLen, hill]; omega) fun r2 w9 hO9 hs9 => ?_
    rw [List.nil_append] at hO9
    have hE9 := hs9.ext0 hE8 (fun k hk => (hO8.blk k hk).1)
    rw [hsl]
    refine ⟨IN n.ends.length fun v w' => Ext w7 w' ∧ OwnL w' w7.heap.size T.t_bool r2 (mapTo (inRule n (j + 1)) (inL n j) v), MN n.ends.length, IN_zero ⟨hE9, by rw [mapTo_zero]; exact hO9⟩, ?_⟩
    rintro _ w10 ⟨v, rfl, hv, hE10, hO10⟩
    intros
    refine cond_dec (fun hlt2 => ?_) (fun hge2 => ?_)
    · have hv' : v < n.ends.length := by omega
      have hml : (mapTo (inRule n (j + 1)) (inL n j) v).length = n.ends.length := by rw [mapTo_len _ (by omega), hill]
      refine (hRs.ext hE10).ixB (i := v) (by omega) fun q hc => LD_bool hc ?_
      rw [inL_get]
      refine cond_b (fun ht => LD_box3 (hb.ext (hE7.trans hE10)) ?_) (fun hf => ?_)
      · refine call (ruLeaves_ok (h.ext (hE7.trans hE10)) hA hv' hj' (hRs.ext hE10)) ?_
        rintro x w11 ⟨rfl, hE11⟩
        replace hE10 := hE10.ext hE11
        replace hO10 := hO10.ext hE11
        refine IX_own hO10 (by omega) rfl fun q hq => ?_
        refine ST_own hO10 (by omega) hq (!leaveB n (inRule n j) v j) rfl fun w12 hO12 hs12 => ?_
        refine IN_next (by omega) hv' ⟨hs12.ext0 hE10 (fun k hk => (hO10.blk k hk).1), ?_⟩
        rw [← mapTo_set _ (by omega)]
        have : inRule n (j + 1) v = !leaveB n (inRule n j) v j := by simp [inRule, ht]
        rw [this]; exact hO12
      · refine IX_own hO10 (by omega) rfl fun q hq => ?_
        refine ST_own hO10 (by omega) hq false rfl fun w12 hO12 hs12 => ?_
        refine IN_next (by omega) hv' ⟨hs12.ext0 hE10 (fun k hk => (hO10.blk k hk).1), ?_⟩
        rw [← mapTo_set _ (by omega)]
        have : inRule n (j + 1) v = false := by simp [inRule, hf]
        rw [this]; exact hO12
    · have : v = n.ends.length := by omega
      subst this
      refine IN2_next (by omega) hj' ⟨hE7.trans hE10, ?_⟩
      have e1 : mapTo (inRule n (j + 1)) (inL n j) n.ends.length = inL n (j + 1) := by
        have := mapTo_all (inRule n (j + 1)) (inL n j)
        rw [hill] at this
        rw [this]; rfl
      rw [e1] at hO10
      exact hO10.low hE7.size_le
  · have : j = 20 := by omega
    subst this
    rw [hsl]
    refine ⟨IN2 n.ends.length fun i out w' => Ext w7 w' ∧ OwnL w' w7.heap.size T.t_int out ((upTo i).filter fun x => inRule n 20 x.toNat), MN2 n.ends.length, IN2_zero ⟨Ext.refl _, by simpa [upTo] using OwnL.nil _ _ _⟩, ?_⟩
    rintro out _ w14 ⟨i, rfl, hi, hE14, hO14⟩
    intros
    refine cond_dec (fun hlt2 => ?_) (fun hge2 => ?_)
    · have hi' : i < n.ends.length := by omega
      have hfl : ((upTo i).filter fun x => inRule n 20 x.toNat).length ≤ 40 := Nat.le_trans (List.length_filter_le _ _) (by rw [upTo_len]; omega)
      refine (hRs.ext hE14).ixB (i := i) (by omega) fun q hc => LD_bool hc ?_
      rw [inL_get]
      refine cond_b (fun ht => ?_) (fun hf => IN2_next (by omega) hi' ⟨hE14, by rw [filter_upTo_succ, if_neg (by simp [hf])]; simpa using hO14⟩)
      refine RUN_lit1 (α := Int) slt_int (i : Int) rfl (by decide) fun r w15 hE15 hO15 => ?_
      replace hE14 := hE14.ext hE15
      replace hO14 := hO14.ext hE15
      refine RUN_append (α := Int) slt_int hO14 hE14.size_le (hO15.rep (by intro z hz; simp at hz; subst hz; show I64 _; unfold I64; omega)).any (by simp; omega) (by simp [maxLen]; omega) fun r' w16 hO16 hs16 => ?_
      refine IN2_next (by omega) hi' ⟨hs16.ext0 hE14 (fun k hk => (hO14.blk k hk).1), ?_⟩
      rw [filter_upTo_succ, if_pos (by simpa using ht)]
      exact hO16
    · have : i = n.ends.length := by omega
      subst this
      exact ⟨hE0.trans (hE7.trans hE14), _, (hO14.rep (setR_I64 (j := 20) hA.good)).any, .yes hA⟩

theorem sRulingByIds_ok {w : World} {a b c : Sl} {n : Net} (h : RNet w a b c n) :
    Calls Try.prog F.s_RulingByIds #[.agg #[a.v, b.v, c.v]] w (Ret [.at .sl, .at (.int .i64), .at .bool] fun (r : Sl) (k : Int) (y : Bool) w' => Ext w w' ∧ ∃ l, R w' r l ∧ AnsG (IdsAsked n) (setR n 20, (20 : Int)) ([], 0) (l, k) y) := by
  refine C_s_RulingByIds ?_
  unfold V_s_RulingByIds
  refine NEW_intro fun p w1 hp hs hE hb1 => LD_box3 hb1 ?_
  replace h := h.ext hE
  refine call (neGood_ok h) ?_
  rintro x w2 ⟨hx, hE2⟩
  replace h := h.ext hE2
  replace hb1 := hb1.ext hE2
  replace hE := hE.ext hE2
  refine cond_not (fun hf => ⟨hE, [], (OutL.nil 0 _).rep, .no fun hg => ?_⟩) (fun ht => LD_bs1 hb1 ?_)
  · rw [hx.2 hg.good] at hf; cases hf
  have hg := hx.1 ht
  rw [h.2.1.len]
  refine cond_eq (fun h0 => ⟨hE, [], (OutL.nil 0 _).rep, .no fun hg => hg.ids (by omega)⟩) (fun h0 => sruling_k1 h hb1 ⟨hg, by omega⟩ hE)

end Go.Proofs.Ytcilbmkieclelaa
