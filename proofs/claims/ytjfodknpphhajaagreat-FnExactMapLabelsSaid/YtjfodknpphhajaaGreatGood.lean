/- When a network is a network: both sides' tests, and the laws' tests of nodes and ports. -/
import Derived.Test.YtjfodknpphhajaaGreatColl
namespace Go.Proofs.YtjfodknpphhajaaGreat
open Go.GX Go.RowKit
set_option maxRecDepth 100000

abbrev Ends := List (List (Int × Int))

/-- The far end of port i of node v. -/
def port (E : Ends) (v i : Nat) : Option (Int × Int) := (E[v]?).bind (·[i]?)

theorem port_get {E : Ends} {v i : Nat} (hv : v < E.length) (hi : i < E[v].length) : port E v i = some E[v][i] := by
  simp [port, hv, hi]

theorem port_some {E : Ends} {v i : Nat} {e : Int × Int} (h : port E v i = some e) : ∃ (hv : v < E.length) (hi : i < E[v].length), E[v][i] = e := by
  unfold port at h
  by_cases hv : v < E.length
  · by_cases hi : i < E[v].length
    · simp [hv, hi] at h; exact ⟨hv, hi, h⟩
    · simp [hv, hi] at h
  · simp [hv] at h

/-- The far end leads back. -/
def Back (E : Ends) (v i : Nat) (e : Int × Int) : Prop := ∃ a b : Nat, e = ((a : Int), (b : Int)) ∧ port E a b = some ((v : Int), (i : Int))

def RowOk (E : Ends) (v : Nat) : Prop := (∀ r, E[v]? = some r → r.length ≤ 6) ∧ ∀ i e, port E v i = some e → Back E v i e

structure Good (n : Net) : Prop where
  size : 1 ≤ n.ends.length ∧ n.ends.length ≤ 40
  ids : IdsOk n.ids n.ends.length
  inputs : n.inputs.length = n.ends.length ∧ AllIn n.inputs 0 9
  rows : ∀ v < n.ends.length, RowOk n.ends v

theorem Good.deg {n : Net} (h : Good n) {v : Nat} (hv : v < n.ends.length) : n.ends[v].length ≤ 6 := (h.rows v hv).1 _ (by simp [hv])
theorem Good.back {n : Net} (h : Good n) {v i : Nat} (hv : v < n.ends.length) (hi : i < n.ends[v].length) : Back n.ends v i n.ends[v][i] := (h.rows v hv).2 i _ (port_get hv hi)

theorem hasNode_ok {w : World} {a b c : Sl} {n : Net} (h : RNet w a b c n) (v : Int) :
    Calls Tryz.prog F.i_Network_hasNode #[.agg #[a.v, b.v, c.v], .int .i64 v] w (Ret [.at .bool] fun (x : Bool) w' => x = decide (0 ≤ v ∧ v < n.ends.length) ∧ Ext w w') := by
  refine C_i_Network_hasNode ?_
  unfold V_i_Network_hasNode
  refine NEW_intro fun p w1 hp hs hE1 hb1 => LD_bs0 hb1 ?_
  have hl := h.1.le
  rw [h.1.len, wrap_of (by omega) (by omega)]
  refine call (within_ok _ _ _ _) ?_
  rintro x _ ⟨rfl, rfl⟩
  refine ⟨?_, hE1⟩
  rw [Bool.eq_iff_iff]
  simp [inR]
  omega

/-- Port numbers as whole numbers. -/
def portZ (E : Ends) (v i : Int) : Option (Int × Int) := if 0 ≤ v ∧ 0 ≤ i then port E v.toNat i.toNat else none

theorem hasPort_ok {w : World} {a b c : Sl} {n : Net} (h : RNet w a b c n) (v i : Int) :
    Calls Tryz.prog F.i_Network_hasPort #[.agg #[a.v, b.v, c.v], .int .i64 v, .int .i64 i] w (Ret [.at .bool] fun (x : Bool) w' => x = (portZ n.ends v i).isSome ∧ Ext w w') := by
  refine C_i_Network_hasPort ?_
  unfold V_i_Network_hasPort
  refine NEW_intro fun p w1 hp hs hE1 hb1 => LD_box3 hb1 ?_
  refine call (hasNode_ok (h.ext hE1) v) ?_
  rintro x w2 ⟨rfl, hE2⟩
  have hE := hE1.trans hE2
  refine cond_dec (fun ⟨h0, h1⟩ => ?_) (fun hn => ⟨?_, hE⟩)
  · refine LD_bs0 (hb1.ext hE2) ?_
    obtain ⟨m, rfl⟩ := Int.eq_ofNat_of_zero_le h0
    have hm : m < n.ends.length := by omega
    refine (h.ext hE).1.ixL hm fun q s hR hc => LD_sl hc ?_
    have hl := hR.le
    rw [hR.len, wrap_of (by omega) (by omega)]
    refine call (within_ok _ _ _ _) ?_
    rintro x _ ⟨rfl, rfl⟩
    refine ⟨?_, hE⟩
    unfold portZ
    by_cases hi : 0 ≤ i
    · obtain ⟨k, rfl⟩ := Int.eq_ofNat_of_zero_le hi
      by_cases hk : k < n.ends[m].length
      · simp [inR, port, hm, hk]; omega
      · simp [inR, port, hm, hk]; omega
    · simp [inR, hi]
  · unfold portZ
    by_cases h0 : 0 ≤ v ∧ 0 ≤ i
    · have : ¬ v.toNat < n.ends.length := by omega
      simp [h0, port, this]
    · simp [h0]

theorem end_struct : intStruct Tryz.prog T.t_i_End 2 = true := by kernel_rfl

theorem portZ_nat (E : Ends) (v i : Nat) : portZ E v i = port E v i := by simp [portZ]

theorem portZ_some {E : Ends} {v i : Int} {e : Int × Int} (h : portZ E v i = some e) : ∃ a b : Nat, v = a ∧ i = b ∧ port E a b = some e := by
  unfold portZ at h
  split at h
  · exact ⟨v.toNat, i.toNat, by omega, by omega, h⟩
  · cases h

theorem back_iff {E : Ends} {v i : Nat} {x y : Int} : Back E v i (x, y) ↔ portZ E x y = some ((v : Int), (i : Int)) := by
  constructor
  · rintro ⟨a, b, he, hp⟩
    cases he
    rw [portZ_nat]; exact hp
  · intro h
    obtain ⟨a, b, rfl, rfl, hp⟩ := portZ_some h
    exact ⟨a, b, rfl, hp⟩

def InvR (E : Ends) (w w' : World) (v : Nat) : Prop := Ext w w' ∧ ∀ u < v, RowOk E u
def InvP (E : Ends) (w w' : World) (v i : Nat) : Prop := InvR E w w' v ∧ ∀ j < i, ∀ e, port E v j = some e → Back E v j e

theorem isNetwork_k1 {w w0 : World} {a b c : Sl} {n : Net} (h : RNet w a b c n) {p : Addr} {t : TypeId} (hb : Box w p t [a.v, b.v, c.v]) (hE0 : Ext w0 w) :
    V_i_IsNetwork_k1 (fun x w' => (x = true ↔ ∀ v < n.ends.length, RowOk n.ends v) ∧ Ext w0 w') p w := by
  unfold V_i_IsNetwork_k1
  refine LD_bs0 hb ?_
  rw [h.1.len]
  have hN := h.1.le
  refine ⟨IN n.ends.length fun v w' => InvR n.ends w w' v, MN n.ends.length, IN_zero ⟨Ext.refl _, fun u hu => absurd hu (by omega)⟩, ?_⟩
  rintro _ w1 ⟨v, rfl, hv, hE1, hI⟩
  intros
  refine cond_dec (fun hlt => ?_) (fun hge => ⟨?_, hE0.trans hE1⟩)
  · have hv' : v < n.ends.length := by omega
    refine (h.ext hE1).1.ixL hv' fun q s hR hc => LD_sl hc ?_
    rw [hR.len]
    refine cond_dec (fun hgt => ⟨?_, hE0.trans hE1⟩) (fun hle => ?_)
    · simp only [Bool.false_eq_true, false_iff]
      intro hall
      have := (hall v hv').1 n.ends[v] (by simp [hv'])
      omega
    · refine ⟨IN n.ends[v].length fun i w' => Ext w1 w' ∧ InvP n.ends w w' v i, MN n.ends[v].length, IN_zero ⟨Ext.refl _, ⟨hE1, hI⟩, fun u hu => absurd hu (by omega)⟩, ?_⟩
      rintro _ w2 ⟨i, rfl, hi, hE12, ⟨hE2, _⟩, hJ⟩
      intros
      refine cond_dec (fun hlt2 => ?_) (fun hge2 => ?_)
      · have hi' : i < n.ends[v].length := by omega
        refine (hR.ext hE12).ixE hi' fun q h1 h2 hc0 hc1 => LD_int2 hc0 hc1 ?_
        refine NEW_ST (one2 _ _) rfl fun p6 w3 hp6 hE3 hb6 => ?_
        have hE03 := hE2.trans hE3
        refine LD_box3 (hb.ext hE03) ?_
        refine LD_bi0 hb6 (LD_bi1 hb6 ?_)
        refine QCALL_bool _ (fun w' hw' => hasPort_ok (h.ext (hE03.trans hw')) _ _) ?_
        have hbk : Back n.ends v i n.ends[v][i] ↔ portZ n.ends n.ends[v][i].1 n.ends[v][i].2 = some ((v : Int), (i : Int)) := back_iff (x := n.ends[v][i].1) (y := n.ends[v][i].2)
        have hfail : ¬ Back n.ends v i n.ends[v][i] → ¬ ∀ v < n.ends.length, RowOk n.ends v := fun hn hall => hn ((hall v hv').2 i _ (port_get hv' hi'))
        refine cond_not (fun hf w4 hE4 => ⟨?_, hE0.trans (hE03.trans hE4)⟩) (fun ht => ?_)
        · simp only [Bool.false_eq_true, false_iff]
          refine hfail fun hB => ?_
          rw [hbk.1 hB] at hf; cases hf
        · obtain ⟨e', he'⟩ := Option.isSome_iff_exists.1 ht
          obtain ⟨x, y, hx, hy, hp'⟩ := portZ_some he'
          obtain ⟨hx', hy', hxy⟩ := port_some hp'
          rw [hx, hy] at hbk
          rw [hx, hy] at hb6
          refine LD_bs0 (hb.ext hE03) (LD_bi0 hb6 ?_)
          refine (h.ext hE03).1.ixL hx' fun q s2 hR2 hc => LD_sl hc ?_
          refine LD_bi1 hb6 ?_
          refine hR2.ixE hy' fun q _ _ hc0 hc1 => LD_int2 hc0 hc1 ?_
          refine AEQ_neq2 end_struct ?_
          intro w4 hE4
          have hE04 := hE03.trans hE4
          rw [portZ_nat, port_get hx' hy'] at hbk
          have hbk' : Back n.ends v i n.ends[v][i] ↔ (n.ends[x][y].1, n.ends[x][y].2) = ((v : Int), (i : Int)) := hbk.trans (by simp [Prod.ext_iff])
          refine cond_not (fun hf => ⟨?_, hE0.trans hE04⟩) (fun ht => ?_)
          · simp only [Bool.false_eq_true, false_iff]
            exact hfail fun hB => (decide_eq_false_iff_not.1 hf) (hbk'.1 hB)
          · refine IN_next (by have := hR.le; omega) hi' ⟨hE12.trans (hE3.trans hE4), ⟨hE04, hI⟩, fun j hj e he => ?_⟩
            rcases Nat.lt_or_eq_of_le (Nat.le_of_lt_succ hj) with h5 | h5
            · exact hJ j h5 e he
            · subst h5
              rw [port_get hv' hi'] at he
              cases he
              exact hbk'.2 (decide_eq_true_iff.1 ht)
      · refine IN_next hN hv' ⟨hE2, fun u hu => ?_⟩
        rcases Nat.lt_or_eq_of_le (Nat.le_of_lt_succ hu) with h5 | h5
        · exact hI u h5
        · subst h5
          refine ⟨fun r hr => ?_, fun j e he => ?_⟩
          · simp [hv'] at hr; subst hr; omega
          · obtain ⟨_, hj, _⟩ := port_some he
            exact hJ j (by omega) e he
  · simp only [true_iff]
    exact fun u hu => hI u (by omega)

theorem isNetwork_ok {w : World} {a b c : Sl} {n : Net} (h : RNet w a b c n) (hl : n.ids.length ≤ 1048576) :
    Calls Tryz.prog F.i_IsNetwork #[.agg #[a.v, b.v, c.v]] w (Ret [.at .bool] fun (x : Bool) w' => (x = true ↔ Good n) ∧ Ext w w') := by
  refine C_i_IsNetwork ?_
  unfold V_i_IsNetwork
  refine NEW_intro fun p w1 hp hs hE1 hb1 => LD_bs0 hb1 ?_
  have h1 := h.ext hE1
  rw [h1.1.len]
  refine call (within_ok _ _ _ _) ?_
  rintro x _ ⟨rfl, rfl⟩
  refine cond_not (fun hf => ⟨?_, hE1⟩) (fun ht => ?_)
  · simp only [Bool.false_eq_true, false_iff]
    intro hg
    exact inR_false hf (by have := hg.size; omega)
  have hsz := inR_true ht
  refine LD_bs1 hb1 (LD_bs0 hb1 ?_)
  rw [h1.1.len]
  refine call (idsOk_ok h1.2.1 hl _) ?_
  rintro x w2 ⟨hx2, hE2⟩
  have hE02 := hE1.trans hE2
  refine cond_not (fun hf => ⟨?_, hE02⟩) (fun ht => ?_)
  · simp only [Bool.false_eq_true, false_iff]
    intro hg
    rw [hx2.2 hg.ids] at hf; cases hf
  have hids := hx2.1 ht
  have h2 := h1.ext hE2
  have hb2 := hb1.ext hE2
  refine LD_bs2 hb2 (LD_bs0 hb2 ?_)
  rw [h2.1.len]
  refine call (inputsOk_ok h2.2.2 _) ?_
  rintro x w3 ⟨hx3, hE3⟩
  have hE03 := hE02.trans hE3
  refine cond_not (fun hf => ⟨?_, hE03⟩) (fun ht => ?_)
  · simp only [Bool.false_eq_true, false_iff]
    intro hg
    rw [hx3.2 hg.inputs] at hf; cases hf
  have hin := hx3.1 ht
  have := isNetwork_k1 (h2.ext hE3) (hb2.ext hE3) hE03
  have heq : (∀ v < n.ends.length, RowOk n.ends v) ↔ Good n := ⟨fun h => ⟨by omega, hids, hin, h⟩, fun h => h.rows⟩
  rw [heq] at this
  exact this

theorem neGood_k1 {w w0 : World} {a b c : Sl} {n : Net} (h : RNet w a b c n) {p : Addr} {t : TypeId} (hb : Box w p t [a.v, b.v, c.v]) (hE0 : Ext w0 w) :
    V_s_neGood_k1 (fun x w' => (x = true ↔ ∀ v < n.ends.length, RowOk n.ends v) ∧ Ext w0 w') p w := by
  unfold V_s_neGood_k1
  refine LD_bs0 hb ?_
  rw [h.1.len]
  have hN := h.1.le
  refine ⟨IN n.ends.length fun v w' => InvR n.ends w w' v, MN n.ends.length, IN_zero ⟨Ext.refl _, fun u hu => absurd hu (by omega)⟩, ?_⟩
  rintro _ w1 ⟨v, rfl, hv, hE1, hI⟩
  intros
  refine cond_dec (fun hlt => ?_) (fun hge => ⟨?_, hE0.trans hE1⟩)
  · have hv' : v < n.ends.length := by omega
    refine (h.ext hE1).1.ixL hv' fun q s hR hc => LD_sl hc ?_
    rw [hR.len]
    refine cond_dec (fun hgt => ⟨?_, hE0.trans hE1⟩) (fun hle => ?_)
    · simp only [Bool.false_eq_true, false_iff]
      intro hall
      have := (hall v hv').1 n.ends[v] (by simp [hv'])
      omega
    · refine ⟨IN n.ends[v].length fun i w' => Ext w1 w' ∧ InvP n.ends w w' v i, MN n.ends[v].length, IN_zero ⟨Ext.refl _, ⟨hE1, hI⟩, fun u hu => absurd hu (by omega)⟩, ?_⟩
      rintro _ w2 ⟨i, rfl, hi, hE12, ⟨hE2, _⟩, hJ⟩
      intros
      refine cond_dec (fun hlt2 => ?_) (fun hge2 => ?_)
      · have hi' : i < n.ends[v].length := by omega
        refine (hR.ext hE12).ixE hi' fun q h1 h2 hc0 hc1 => LD_int2 hc0 hc1 ?_
        refine NEW_ST (one2 _ _) rfl fun p6 w3 hp6 hE3 hb6 => ?_
        have hE03 := hE2.trans hE3
        have hbk : Back n.ends v i n.ends[v][i] ↔ portZ n.ends n.ends[v][i].1 n.ends[v][i].2 = some ((v : Int), (i : Int)) := back_iff (x := n.ends[v][i].1) (y := n.ends[v][i].2)
        have hfail : ¬ Back n.ends v i n.ends[v][i] → ¬ ∀ v < n.ends.length, RowOk n.ends v := fun hn hall => hn ((hall v hv').2 i _ (port_get hv' hi'))
        refine LD_bi0 hb6 (LD_bs0 (hb.ext hE03) ?_)
        rw [h.1.len, wrap_of (by omega) (by omega)]
        refine QCALL_bool _ (fun w' hw' => call (l1In_ok _ _ _ _) (by rintro b _ ⟨rfl, rfl⟩; exact ⟨rfl, Ext.refl _⟩)) ?_
        refine cond_not (fun hf w4 hE4 => ⟨?_, hE0.trans (hE03.trans hE4)⟩) (fun ht => ?_)
        · simp only [Bool.false_eq_true, false_iff]
          refine hfail fun hB => inR_false hf ?_
          obtain ⟨x, y, he, hp'⟩ := hB
          obtain ⟨hx', _⟩ := port_some hp'
          rw [he]; simp only; omega
        obtain ⟨x, hx⟩ := Int.eq_ofNat_of_zero_le (inR_true ht).1
        have hx' : x < n.ends.length := by have := (inR_true ht).2; omega
        refine LD_bi1 hb6 (LD_bs0 (hb.ext hE03) (LD_bi0 hb6 ?_))
        rw [hx] at hbk ⊢
        refine (h.ext hE03).1.ixL hx' fun q s2 hR2 hc => LD_sl hc ?_
        have hl2 := hR2.le
        rw [hR2.len, wrap_of (by omega) (by omega)]
        refine QCALL_bool _ (fun w' hw' => call (l1In_ok _ _ _ _) (by rintro b _ ⟨rfl, rfl⟩; exact ⟨rfl, Ext.refl _⟩)) ?_
        refine cond_not (fun hf w4 hE4 => ⟨?_, hE0.trans (hE03.trans hE4)⟩) (fun ht => ?_)
        · simp only [Bool.false_eq_true, false_iff]
          refine hfail fun hB => inR_false hf ?_
          obtain ⟨x', y', he, hp'⟩ := hB
          obtain ⟨_, hy', _⟩ := port_some hp'
          have hxx : x' = x := by have := congrArg Prod.fst he; rw [hx] at this; simp at this; omega
          subst hxx
          rw [he]; simp only; omega
        obtain ⟨y, hy⟩ := Int.eq_ofNat_of_zero_le (inR_true ht).1
        have hy' : y < n.ends[x].length := by have := (inR_true ht).2; omega
        rw [hx, hy] at hb6
        refine LD_bs0 (hb.ext hE03) (LD_bi0 hb6 ?_)
        refine (h.ext hE03).1.ixL hx' fun q s2 hR2 hc => LD_sl hc ?_
        refine LD_bi1 hb6 ?_
        refine hR2.ixE hy' fun q _ _ hc0 hc1 => LD_int2 hc0 hc1 ?_
        refine AEQ_neq2 end_struct ?_
        intro w4 hE4
        have hE04 := hE03.trans hE4
        rw [hy, portZ_nat, port_get hx' hy'] at hbk
        have hbk' : Back n.ends v i n.ends[v][i] ↔ (n.ends[x][y].1, n.ends[x][y].2) = ((v : Int), (i : Int)) := hbk.trans (by simp [Prod.ext_iff])
        refine cond_not (fun hf => ⟨?_, hE0.trans hE04⟩) (fun ht => ?_)
        · simp only [Bool.false_eq_true, false_iff]
          exact hfail fun hB => (decide_eq_false_iff_not.1 hf) (hbk'.1 hB)
        · refine IN_next (by have := hR.le; omega) hi' ⟨hE12.trans (hE3.trans hE4), ⟨hE04, hI⟩, fun j hj e he => ?_⟩
          rcases Nat.lt_or_eq_of_le (Nat.le_of_lt_succ hj) with h5 | h5
          · exact hJ j h5 e he
          · subst h5
            rw [port_get hv' hi'] at he
            cases he
            exact hbk'.2 (decide_eq_true_iff.1 ht)
      · refine IN_next hN hv' ⟨hE2, fun u hu => ?_⟩
        rcases Nat.lt_or_eq_of_le (Nat.le_of_lt_succ hu) with h5 | h5
        · exact hI u h5
        · subst h5
          refine ⟨fun r hr => ?_, fun j e he => ?_⟩
          · simp [hv'] at hr; subst hr; omega
          · obtain ⟨_, hj, _⟩ := port_some he
            exact hJ j (by omega) e he
  · simp only [true_iff]
    exact fun u hu => hI u (by omega)

theorem neGood_ok {w : World} {a b c : Sl} {n : Net} (h : RNet w a b c n) :
    Calls Tryz.prog F.s_neGood #[.agg #[a.v, b.v, c.v]] w (Ret [.at .bool] fun (x : Bool) w' => (x = true ↔ Good n) ∧ Ext w w') := by
  refine C_s_neGood ?_
  unfold V_s_neGood
  refine NEW_intro fun p w1 hp hs hE1 hb1 => LD_bs0 hb1 ?_
  have h1 := h.ext hE1
  rw [h1.1.len]
  refine call (l1In_ok _ _ _ _) ?_
  rintro x _ ⟨rfl, rfl⟩
  refine cond_not (fun hf => ⟨?_, hE1⟩) (fun ht => ?_)
  · simp only [Bool.false_eq_true, false_iff]
    intro hg
    exact inR_false hf (by have := hg.size; omega)
  have hsz := inR_true ht
  refine LD_bs1 hb1 (LD_bs0 hb1 ?_)
  rw [h1.1.len]
  refine call (neIds_ok h1.2.1 _) ?_
  rintro x _ ⟨hx2, rfl⟩
  refine cond_not (fun hf => ⟨?_, hE1⟩) (fun ht => ?_)
  · simp only [Bool.false_eq_true, false_iff]
    intro hg
    rw [hx2.2 hg.ids] at hf; cases hf
  have hids := hx2.1 ht
  refine LD_bs2 hb1 (LD_bs0 hb1 ?_)
  rw [h1.1.len, h1.2.2.len]
  refine cond_ne (fun hne => ⟨?_, hE1⟩) (fun heq => ?_)
  · simp only [Bool.false_eq_true, false_iff]
    intro hg
    have := hg.inputs.1
    omega
  refine LD_bs2 hb1 ?_
  refine call (l1All_ok h1.2.2 _ _) ?_
  rintro x _ ⟨hx3, rfl⟩
  refine cond_not (fun hf => ⟨?_, hE1⟩) (fun ht => ?_)
  · simp only [Bool.false_eq_true, false_iff]
    intro hg
    rw [hx3.2 hg.inputs.2] at hf; cases hf
  have hin := hx3.1 ht
  have := neGood_k1 h1 hb1 hE1
  have heq : (∀ v < n.ends.length, RowOk n.ends v) ↔ Good n := ⟨fun h => ⟨by omega, hids, ⟨by omega, hin⟩, h⟩, fun h => h.rows⟩
  rw [heq] at this
  exact this

/-- Two answers of a test: the answer, and whether it was asked rightly. -/
def Ans2 (g p : Prop) (x ok : Bool) : Prop := (x = true ↔ g ∧ p) ∧ (ok = true ↔ g)

theorem Ans2.eq {g p : Prop} {x ok x' ok' : Bool} (h : Ans2 g p x ok) (h' : Ans2 g p x' ok') : x = x' ∧ ok = ok' :=
  ⟨Bool.eq_iff_iff.2 (h.1.trans h'.1.symm), Bool.eq_iff_iff.2 (h.2.trans h'.2.symm)⟩

theorem Ans2.no {g p : Prop} (h : ¬ g) : Ans2 g p false false := ⟨by simp [h], by simp [h]⟩
theorem Ans2.mk {g p : Prop} {x : Bool} (h : g) (hx : x = true ↔ p) : Ans2 g p x true := ⟨by simp [h, hx], by simp [h]⟩

end Go.Proofs.YtjfodknpphhajaaGreat
