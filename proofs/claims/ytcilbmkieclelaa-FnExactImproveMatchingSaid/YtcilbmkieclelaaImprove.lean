/- ImproveMatching, both sides. -/
import Derived.Test.YtcilbmkieclelaaTake
namespace Go.Proofs.Ytcilbmkieclelaa
open Go.GX Go.RowKit
set_option maxRecDepth 100000

/-- The least port of a node that leads to another one. -/
def portIx (E : Ends) (v : Nat) (u : Int) : Option Nat := (rowOf E v).findIdx? fun e => e.1 == u

theorem portIx_some {E : Ends} {v : Nat} {u : Int} {i : Nat} (hv : v < E.length) (h : portIx E v u = some i) : ∃ y, port E v i = some (u, y) := by
  unfold portIx at h
  rw [rowOf_get hv] at h
  obtain ⟨hi, hp, _⟩ := List.findIdx?_eq_some_iff_getElem.1 h
  refine ⟨E[v][i].2, ?_⟩
  rw [port_get hv hi]
  have : E[v][i].1 = u := by simpa using hp
  rw [← this]

theorem portTo_ok {w : World} {a b c : Sl} {n : Net} (h : RNet w a b c n) {v : Nat} (hv : v < n.ends.length) (u : Int) :
    Calls Try.prog F.i_portTo #[.agg #[a.v, b.v, c.v], .int .i64 v, .int .i64 u] w (Ret [.at (.int .i64)] fun (r : Int) w' => r = (match portIx n.ends v u with | some k => (k : Int) | none => -1) ∧ Ext w w') := by
  refine C_i_portTo ?_
  unfold V_i_portTo portIx
  rw [rowOf_get hv]
  refine NEW_intro fun p w1 hp hs hE hb1 => ?_
  replace h := h.ext hE
  refine NEW_intro fun p2 w2 hp2 hs2 hE2 hb2 => ?_
  replace h := h.ext hE2
  replace hb1 := hb1.ext hE2
  replace hE := hE.ext hE2
  refine LD_bs0 hb1 ?_
  refine h.1.ixL hv fun q s1 hR hc => LD_sl hc ?_
  refine call (indexFuncE_ok (p := fun e => e.1 == u) hR ?_) ?_
  · intro e he w3 hE3
    refine CALLV_mk (by kernel_rfl) (C_i_portTo_1 ?_)
    unfold V_i_portTo_1
    refine NEW_intro fun p1 w4 hp1 hs4 hE4 hb4 => LD_bi0 hb4 (LD_bi ((hb2.ext hE3).ext hE4) ?_)
    exact ⟨rfl, hE4⟩
  · rintro x w3 ⟨hx, hE3⟩
    refine ⟨?_, hE.trans hE3⟩
    unfold Found at hx
    cases hf : n.ends[v].findIdx? (fun e => e.1 == u) with
    | none => rw [hf] at hx; exact hx
    | some k => rw [hf] at hx; exact hx

theorem mtPort_ok {w : World} {a b c : Sl} {n : Net} (h : RNet w a b c n) {v : Nat} (hv : v < n.ends.length) (u : Int) :
    Calls Try.prog F.s_mtPort #[.agg #[a.v, b.v, c.v], .int .i64 v, .int .i64 u] w (Ret [.at (.int .i64)] fun (r : Int) w' => r = (match portIx n.ends v u with | some k => (k : Int) | none => -1) ∧ Ext w w') := by
  refine C_s_mtPort ?_
  unfold V_s_mtPort portIx
  rw [rowOf_get hv]
  refine NEW_intro fun p w1 hp hs hE hb1 => LD_bs0 hb1 ?_
  replace h := h.ext hE
  refine h.1.ixL hv fun q s1 hR hc => LD_sl hc ?_
  rw [hR.len]
  refine ⟨IN n.ends[v].length fun i w' => Ext w1 w' ∧ ∀ e ∈ n.ends[v].take i, (e.1 == u) = false, MN n.ends[v].length, IN_zero ⟨Ext.refl _, by simp⟩, ?_⟩
  rintro _ w2 ⟨i, rfl, hi, hE2, ha⟩
  intros
  refine cond_dec (fun hlt => ?_) (fun hge => ⟨?_, hE.trans hE2⟩)
  · have hi' : i < n.ends[v].length := by omega
    refine (hR.ext hE2).ixE hi' fun q _ _ hc0 hc1 => LD_int2 hc0 hc1 ?_
    refine NEW_ST (one2 _ _) rfl fun p6 w4 hp6 hE4 hb6 => LD_bi0 hb6 ?_
    replace hE2 := hE2.ext hE4
    refine cond_b (fun ht => ⟨?_, hE.trans hE2⟩) (fun hf => IN_next hR.le hi' ⟨hE2, none_succ hi' ha hf⟩)
    have := found_at (p := fun e : Int × Int => e.1 == u) hi' ha ht
    unfold Found at this
    cases hf : n.ends[v].findIdx? (fun e => e.1 == u) with
    | none => rw [hf] at this; simp only at this ⊢; omega
    | some k => rw [hf] at this; exact this
  · have : i = n.ends[v].length := by omega
    subst this
    rw [List.take_length] at ha
    have := found_no (p := fun e : Int × Int => e.1 == u) ha
    unfold Found at this
    cases hf : n.ends[v].findIdx? (fun e => e.1 == u) with
    | none => rfl
    | some k => rw [hf] at this; simp only at this; omega

/-! ### What can be improved -/

/-- The mate of a matched node. -/
def mate (E : Ends) (m : List Int) (v : Nat) : Nat := ((port E v (m.getD v 0).toNat).getD (0, 0)).1.toNat

structure ImpAt (E : Ends) (m : List Int) (u v x : Nat) : Prop where
  free : m.getD u 0 < 0
  taken : 0 ≤ m.getD v 0
  first : (portIx E u v).isSome = true
  free2 : m.getD x 0 < 0
  ne : x ≠ u
  second : (portIx E (mate E m v) x).isSome = true

def edgeTo (E : Ends) (v : Nat) (u : Nat) : Edge := ((v : Int), ((portIx E v u).getD 0 : Nat), (u : Int), ((port E v ((portIx E v u).getD 0)).getD (0, 0)).2)
def impOf (E : Ends) (m : List Int) (u v x : Nat) : List Int := putE (putE m (edgeTo E u v)) (edgeTo E (mate E m v) x)

/-- Nothing lies ahead of it. -/
def ImpFirst (E : Ends) (m : List Int) (u v x : Nat) : Prop :=
  (∀ u' < u, ∀ v' < m.length, ∀ x' < m.length, ¬ ImpAt E m u' v' x') ∧ (∀ v' < v, ∀ x' < m.length, ¬ ImpAt E m u v' x') ∧ ∀ x' < x, ¬ ImpAt E m u v x'

def ImpAns (n : Net) (m l : List Int) (ok : Bool) : Prop :=
  (ok = true ∧ MatchAsked n m ∧ ∃ u v x, u < m.length ∧ v < m.length ∧ x < m.length ∧ ImpAt n.ends m u v x ∧ ImpFirst n.ends m u v x ∧ l = impOf n.ends m u v x) ∨
  (ok = false ∧ l = [] ∧ ¬ (MatchAsked n m ∧ ∃ u v x, u < m.length ∧ v < m.length ∧ x < m.length ∧ ImpAt n.ends m u v x))

theorem ImpAns.eq {n : Net} {m l l' : List Int} {ok ok' : Bool} (h : ImpAns n m l ok) (h' : ImpAns n m l' ok') : l = l' ∧ ok = ok' := by
  rcases h with ⟨rfl, hM, u, v, x, hu, hv, hx, hI, hF, rfl⟩ | ⟨rfl, rfl, hn⟩
  · rcases h' with ⟨rfl, _, u', v', x', hu', hv', hx', hI', hF', rfl⟩ | ⟨rfl, rfl, hn⟩
    · have e1 : u = u' := by
        rcases Nat.lt_trichotomy u u' with h1 | h1 | h1
        · exact absurd hI (hF'.1 u h1 v hv x hx)
        · exact h1
        · exact absurd hI' (hF.1 u' h1 v' hv' x' hx')
      subst e1
      have e2 : v = v' := by
        rcases Nat.lt_trichotomy v v' with h1 | h1 | h1
        · exact absurd hI (hF'.2.1 v h1 x hx)
        · exact h1
        · exact absurd hI' (hF.2.1 v' h1 x' hx')
      subst e2
      have e3 : x = x' := by
        rcases Nat.lt_trichotomy x x' with h1 | h1 | h1
        · exact absurd hI (hF'.2.2 x h1)
        · exact h1
        · exact absurd hI' (hF.2.2 x' h1)
      subst e3
      exact ⟨rfl, rfl⟩
    · exact absurd ⟨hM, u, v, x, hu, hv, hx, hI⟩ hn
  · rcases h' with ⟨rfl, hM, u', v', x', hu', hv', hx', hI', hF', rfl⟩ | ⟨rfl, rfl, hn'⟩
    · exact absurd ⟨hM, u', v', x', hu', hv', hx', hI'⟩ hn
    · exact ⟨rfl, rfl⟩

theorem mate_at {n : Net} {m : List Int} (hM : MatchAsked n m) {v : Nat} (hv : v < m.length) (h0 : 0 ≤ m[v]) :
    ∃ i u y : Nat, m[v] = i ∧ port n.ends v i = some ((u : Int), (y : Int)) ∧ mate n.ends m v = u ∧ u < n.ends.length := by
  rcases (mat_get hv).1 (hM.is.2 v hv) with h1 | ⟨e, he, _, _⟩
  · omega
  · obtain ⟨v', i, hvv, hi, hpe⟩ := portZ_some he
    obtain rfl : v = v' := by omega
    obtain ⟨hv2, hi2, hee⟩ := port_some hpe
    obtain ⟨x, y, hxy, hx, _⟩ := hM.good.far hv2 hi2
    rw [hee] at hxy
    subst hxy
    refine ⟨i, x, y, hi, hpe, ?_, hx⟩
    unfold mate
    simp [hv, hi, hpe]

theorem edge_of {n : Net} (hg : Good n) {v u : Nat} (hv : v < n.ends.length) (h : (portIx n.ends v u).isSome = true) :
    ∃ i y : Nat, portIx n.ends v u = some i ∧ port n.ends v i = some ((u : Int), (y : Int)) ∧ edgeTo n.ends v u = ((v : Int), (i : Int), (u : Int), (y : Int)) ∧ i < 6 ∧ y < 6 ∧ u < n.ends.length := by
  obtain ⟨i, hi⟩ := Option.isSome_iff_exists.1 h
  obtain ⟨y, hy⟩ := portIx_some hv hi
  obtain ⟨hv2, hi2, hee⟩ := port_some hy
  obtain ⟨x, y', hxy, hx, hb⟩ := hg.far hv2 hi2
  rw [hee] at hxy
  obtain ⟨hu, rfl⟩ := Prod.mk.inj hxy
  have : u = x := by omega
  subst this
  obtain ⟨_, hy2, _⟩ := port_some hb
  have := hg.deg hv2
  have := hg.deg hx
  exact ⟨i, y', hi, hy, by simp [edgeTo, hi, hy], by omega, by omega, hx⟩

theorem impOf_I64 {n : Net} (hg : Good n) {m : List Int} (hm : ∀ x ∈ m, I64 x) {u v x : Nat} (hu : u < n.ends.length) (hw : mate n.ends m v < n.ends.length) (hI : ImpAt n.ends m u v x) : ∀ z ∈ impOf n.ends m u v x, I64 z := by
  obtain ⟨i, y, _, _, h1, _, _, _⟩ := edge_of hg hu hI.first
  obtain ⟨i', y', _, _, h2, _, _, _⟩ := edge_of hg hw hI.second
  unfold impOf
  rw [h1, h2]
  refine putE_all (putE_all hm ?_ ?_) ?_ ?_ <;> (show I64 _; unfold I64; simp only; omega)

theorem impOf_len (E : Ends) (m : List Int) (u v x : Nat) : (impOf E m u v x).length = m.length := by unfold impOf; rw [putE_len, putE_len]

theorem portIx_neg {E : Ends} {v : Nat} {u : Int} : ((match portIx E v u with | some k => (k : Int) | none => -1) < 0) ↔ ¬ (portIx E v u).isSome = true := by
  cases portIx E v u <;> simp

theorem improve_k11 {w w0 : World} {a b c s : Sl} {n : Net} {m : List Int} {p : Addr} {t : TypeId} (h : RNet w a b c n) (hm : R w s m) (hb : Box w p t [a.v, b.v, c.v]) (hM : MatchAsked n m) (hE0 : Ext w0 w) {u v x : Nat} (hu : u < m.length) (hv : v < m.length) (hx : x < m.length) (hI : ImpAt n.ends m u v x) (hF : ImpFirst n.ends m u v x) (hw : mate n.ends m v < n.ends.length) :
    V_i_ImproveMatching_k11 s (fun r y w' => Ext w0 w' ∧ ∃ l, OutL w0.heap.size w' r l ∧ ImpAns n m l y) p (u : Int) (v : Int) ((mate n.ends m v : Nat) : Int) (x : Int) w := by
  unfold V_i_ImproveMatching_k11
  have hlen := hM.is.1
  have h40 := hM.good.size.2
  have hue : u < n.ends.length := by omega
  obtain ⟨i, y, hi, hp1, he1, _, _, hvl⟩ := edge_of hM.good hue hI.first
  obtain ⟨j, z, hj, hp2, he2, _, _, hxl⟩ := edge_of hM.good hw hI.second
  refine call (clone_ok hm (by omega)) ?_
  rintro r w1 ⟨hE1, hO⟩
  have hb0 := hb
  have h0 := h
  replace h := h.ext hE1
  replace hb := hb.ext hE1
  refine LD_box3 hb ?_
  refine QCALL_int _ (fun w' hw' => portTo_ok (h.ext hw') hue (v : Int)) ?_
  refine LD_box3 hb ?_
  refine QCALL_int _ (fun w' hw' => portTo_ok (h.ext hw') hw (x : Int)) ?_
  rw [hi, hj]
  intro w2 hE2
  replace h := h.ext hE2
  replace hb := hb.ext hE2
  replace hO := hO.ext hE2
  obtain ⟨_, hi2, hee1⟩ := port_some hp1
  obtain ⟨_, hj2, hee2⟩ := port_some hp2
  have hE12 := hE1.trans hE2
  refine LD_bs0 hb ?_
  refine h.1.ixL hue fun q s1 hR hc => LD_sl hc ?_
  refine hR.ixE hi2 fun q _ _ hc0 hc1 => LD_int hc1 ?_
  rw [hee1]
  refine IX_own hO hu rfl fun q hq => ?_
  refine ST_own hO hu hq (i : Int) rfl fun w3 hO3 hs3 => ?_
  have hv' : v < (m.set u (i : Int)).length := by simpa using hv
  refine IX_own hO3 hv' rfl fun q hq => ?_
  refine ST_own hO3 hv' hq (y : Int) rfl fun w4 hO4 hs4 => ?_
  have hE4 := hs4.ext0 (hs3.ext0 hE12 (fun k hk => (hO.blk k hk).1)) (fun k hk => (hO3.blk k hk).1)
  have hC4 : Chg w2 w4 (oB r) := (Chg.of_step hs3 fun k hk => hk).trans (.of_step hs4 fun k hk => hk)
  have hrb : ∀ k, oB r k → w.heap.size ≤ k := fun k hk => (hO.blk k hk).1
  have hb4 := hb.chg hC4 (fun hk => by
    have := hrb _ hk
    have := hb0.lt
    omega)
  have h4 := h0.ext hE4
  refine LD_bs0 hb4 ?_
  refine h4.1.ixL hw fun q s1 hR hc => LD_sl hc ?_
  refine hR.ixE hj2 fun q _ _ hc0 hc1 => LD_int hc1 ?_
  rw [hee2]
  have hw' : mate n.ends m v < ((m.set u (i : Int)).set v (y : Int)).length := by simp; omega
  refine IX_own hO4 hw' rfl fun q hq => ?_
  refine ST_own hO4 hw' hq (j : Int) rfl fun w5 hO5 hs5 => ?_
  have hx' : x < (((m.set u (i : Int)).set v (y : Int)).set (mate n.ends m v) (j : Int)).length := by simpa using hx
  refine IX_own hO5 hx' rfl fun q hq => ?_
  refine ST_own hO5 hx' hq (z : Int) rfl fun w6 hO6 hs6 => ?_
  have hE6 := hs6.ext0 (hs5.ext0 hE4 (fun k hk => (hO4.blk k hk).1)) (fun k hk => (hO5.blk k hk).1)
  have he : impOf n.ends m u v x = (((m.set u (i : Int)).set v (y : Int)).set (mate n.ends m v) (j : Int)).set x (z : Int) := by
    unfold impOf
    rw [he1, he2]
    simp [putE]
  refine ⟨hE0.trans hE6, impOf n.ends m u v x, ⟨?_, impOf_I64 hM.good (flat_ok hm) hue hw hI, by rw [impOf_len]; omega⟩, .inl ⟨rfl, hM, u, v, x, hu, hv, hx, hI, hF, rfl⟩⟩
  rw [he]
  exact hO6.low hE0.size_le

theorem ImproveMatching_ok {w : World} {a b c s : Sl} {n : Net} {m : List Int} (h : RNet w a b c n) (hm : R w s m) (hn : Small n) :
    Calls Try.prog F.i_ImproveMatching #[.agg #[a.v, b.v, c.v], s.v] w (Ret [.at .sl, .at .bool] fun (r : Sl) (y : Bool) w' => Ext w w' ∧ ∃ l, OutL w.heap.size w' r l ∧ ImpAns n m l y) := by
  refine C_i_ImproveMatching ?_
  unfold V_i_ImproveMatching
  refine NEW_intro fun p w1 hp hs hE hb1 => LD_box3 hb1 ?_
  replace h := h.ext hE
  replace hm := hm.ext hE
  refine call (matchingOk_ok h hm hn) ?_
  rintro x w2 ⟨hx, hE2⟩
  replace h := h.ext hE2
  replace hm := hm.ext hE2
  replace hb1 := hb1.ext hE2
  replace hE := hE.ext hE2
  refine cond_not (fun hf => ⟨hE, [], OutL.nil _ _, .inr ⟨rfl, rfl, fun hg => ?_⟩⟩) (fun ht => ?_)
  · rw [hx.2 hg.1] at hf; cases hf
  have hM := hx.1 ht
  have hlen := hM.is.1
  have h40 := hM.good.size.2
  rw [hm.len]
  have hle := hm.le
  refine ⟨IN m.length fun u w' => Ext w2 w' ∧ ∀ u' < u, ∀ v' < m.length, ∀ x' < m.length, ¬ ImpAt n.ends m u' v' x', MN m.length, IN_zero ⟨Ext.refl _, fun u hu => absurd hu (by omega)⟩, ?_⟩
  rintro _ w3 ⟨u, rfl, hu, hE3, hF1⟩
  intros
  refine cond_dec (fun hlt => ?_) (fun hge => ⟨hE.trans hE3, [], OutL.nil _ _, .inr ⟨rfl, rfl, ?_⟩⟩)
  rotate_left
  · rintro ⟨_, u', v', x', hu', hv', hx', hI⟩
    exact hF1 u' (by omega) v' hv' x' hx' hI
  have hu' : u < m.length := by omega
  refine ⟨IN m.length fun v w' => Ext w2 w' ∧ ∀ v' < v, ∀ x' < m.length, ¬ ImpAt n.ends m u v' x', MN m.length, IN_zero ⟨hE3, fun v hv => absurd hv (by omega)⟩, ?_⟩
  rintro _ w4 ⟨v, rfl, hv, hE4, hF2⟩
  intros
  refine cond_dec (fun hlt2 => ?_) (fun hge => IN_next hle hu' ⟨hE4, all_succ hF1 fun v' hv' => hF2 v' (by omega)⟩)
  have hv' : v < m.length := by omega
  have hue : u < n.ends.length := by omega
  have hve : v < n.ends.length := by omega
  have hgu : m.getD u 0 = m[u] := by simp [hu']
  have hgv : m.getD v 0 = m[v] := by simp [hv']
  have hskip : (∀ x' < m.length, ¬ ImpAt n.ends m u v x') → ∀ w', Ext w4 w' → V_i_ImproveMatching_k6 (IN m.length fun v w' => Ext w2 w' ∧ ∀ v' < v, ∀ x' < m.length, ¬ ImpAt n.ends m u v' x') (MN m.length) (v : Int) w4 w' := fun hn w' hE' => by
    unfold V_i_ImproveMatching_k6
    exact IN_next hle hv' ⟨hE4.trans hE', all_succ hF2 hn⟩
  replace h := h.ext hE4
  replace hm := hm.ext hE4
  replace hb1 := hb1.ext hE4
  replace hE := hE.ext hE4
  refine hm.ixI hu' fun q _ hc => LD_int hc ?_
  refine cond_dec (fun h1 => hskip (fun x' _ hI => by have := hI.free; omega) _ (Ext.refl _)) (fun h1 => ?_)
  refine hm.ixI hv' fun q _ hc => LD_int hc ?_
  refine cond_dec (fun h2 => hskip (fun x' _ hI => by have := hI.taken; omega) _ (Ext.refl _)) (fun h2 => LD_box3 hb1 ?_)
  refine call (portTo_ok h hue (v : Int)) ?_
  rintro r w5 ⟨rfl, hE5⟩
  refine cond_dec (fun h3 => hskip (fun x' _ hI => (portIx_neg.1 h3) hI.first) _ hE5) (fun h3 => ?_)
  have hfst : (portIx n.ends u (v : Int)).isSome = true := Classical.byContradiction fun hc => h3 (portIx_neg.2 hc)
  obtain ⟨i, wn, y, hi, hpe, hmt, hwl⟩ := mate_at hM hv' (by omega)
  obtain ⟨_, hi2, hee⟩ := port_some hpe
  unfold V_i_ImproveMatching_k7
  replace h := h.ext hE5
  replace hm := hm.ext hE5
  replace hb1 := hb1.ext hE5
  replace hE := hE.ext hE5
  refine LD_bs0 hb1 ?_
  refine h.1.ixL hve fun q s1 hR hc => LD_sl hc ?_
  refine hm.ixI hv' fun q _ hc => LD_int hc ?_
  rw [hi]
  refine hR.ixE hi2 fun q _ _ hc0 hc1 => LD_int hc0 ?_
  rw [hee]
  intro w7 hE7
  replace h := h.ext hE7
  replace hm := hm.ext hE7
  replace hb1 := hb1.ext hE7
  replace hE := hE.ext hE7
  rw [hm.len]
  refine ⟨IN m.length fun x w' => Ext w7 w' ∧ ∀ x' < x, ¬ ImpAt n.ends m u v x', MN m.length, IN_zero ⟨Ext.refl _, fun v hv => absurd hv (by omega)⟩, ?_⟩
  rintro _ w8 ⟨x, rfl, hx, hE8, hF3⟩
  intros
  replace h := h.ext hE8
  replace hm := hm.ext hE8
  replace hb1 := hb1.ext hE8
  replace hE := hE.ext hE8
  refine cond_dec (fun hlt3 => ?_) (fun hge => hskip (fun x' hx' => hF3 x' (by omega)) _ (hE5.trans (hE7.trans hE8)))
  have hx' : x < m.length := by omega
  have hgx : m.getD x 0 = m[x] := by simp [hx']
  refine hm.ixI hx' fun q _ hc => LD_int hc ?_
  refine cond_dec (fun h4 => IN_next hle hx' ⟨hE8, all_succ hF3 fun hI => by have := hI.free2; omega⟩) (fun h4 => ?_)
  refine cond_eq (fun h5 => IN_next hle hx' ⟨hE8, all_succ hF3 fun hI => hI.ne (by omega)⟩) (fun h5 => LD_box3 hb1 ?_)
  refine call (portTo_ok h hwl (x : Int)) ?_
  rintro r w9 ⟨rfl, hE9⟩
  refine cond_dec (fun h6 => IN_next hle hx' ⟨hE8.trans hE9, all_succ hF3 fun hI => (portIx_neg.1 h6) (by have := hI.second; rwa [hmt] at this)⟩) (fun h6 => ?_)
  have hsnd : (portIx n.ends wn (x : Int)).isSome = true := Classical.byContradiction fun hc => h6 (portIx_neg.2 hc)
  replace h := h.ext hE9
  replace hm := hm.ext hE9
  replace hb1 := hb1.ext hE9
  replace hE := hE.ext hE9
  have := improve_k11 (w0 := w) h hm hb1 hM hE (u := u) (v := v) (x := x) hu' hv' hx' ⟨by omega, by omega, hfst, by omega, by omega, by rw [hmt]; exact hsnd⟩ ⟨hF1, hF2, hF3⟩ (by rw [hmt]; exact hwl)
  rw [hmt] at this
  exact this

theorem simprove_k11 {w w0 : World} {a b c s : Sl} {n : Net} {m : List Int} {p : Addr} {t : TypeId} (h : RNet w a b c n) (hm : R w s m) (hb : Box w p t [a.v, b.v, c.v]) (hM : MatchAsked n m) (hE0 : Ext w0 w) {u v x : Nat} (hu : u < m.length) (hv : v < m.length) (hx : x < m.length) (hI : ImpAt n.ends m u v x) (hF : ImpFirst n.ends m u v x) (hw : mate n.ends m v < n.ends.length) :
    V_s_ImproveMatching_k11 s (fun r y w' => Ext w0 w' ∧ ∃ l, R w' r l ∧ ImpAns n m l y) p (u : Int) (v : Int) ((mate n.ends m v : Nat) : Int) (x : Int) w := by
  unfold V_s_ImproveMatching_k11
  have hlen := hM.is.1
  have h40 := hM.good.size.2
  have hue : u < n.ends.length := by omega
  obtain ⟨i, y, hi, hp1, he1, hi6, hy6, hvl⟩ := edge_of hM.good hue hI.first
  obtain ⟨j, z, hj, hp2, he2, hj6, hz6, hxl⟩ := edge_of hM.good hw hI.second
  intro w1 hE1 _
  replace h := h.ext hE1
  replace hm := hm.ext hE1
  replace hb := hb.ext hE1
  refine LD_box3 hb (LD_box3 hb ⟨Ext.refl _, ?_⟩)
  refine call (mtPort_ok h hue (v : Int)) ?_
  rintro r w2 ⟨rfl, hE2⟩
  refine ⟨hE2, ?_⟩
  rw [hi]
  replace h := h.ext hE2
  replace hm := hm.ext hE2
  replace hb := hb.ext hE2
  refine call (mtTake_ok h hm hlen (by omega) hp1 hvl) ?_
  rintro r1 w3 ⟨hE3, hO3⟩
  refine ⟨hE2.trans hE3, ?_⟩
  have hok : ∀ q ∈ putE m ((u : Int), (i : Int), (v : Int), (y : Int)), I64 q := putE_all (flat_ok hm) (by show I64 _; unfold I64; simp only; omega) (by show I64 _; unfold I64; simp only; omega)
  replace h := h.ext hE3
  replace hm := hm.ext hE3
  replace hb := hb.ext hE3
  intro w4 hE4 _
  replace h := h.ext hE4
  replace hm := hm.ext hE4
  replace hb := hb.ext hE4
  replace hO3 := hO3.ext hE4
  refine LD_box3 hb (LD_box3 hb ⟨Ext.refl _, ?_⟩)
  refine call (mtPort_ok h hw (x : Int)) ?_
  rintro r2 w5 ⟨rfl, hE5⟩
  refine ⟨hE5, ?_⟩
  rw [hj]
  replace h := h.ext hE5
  replace hm := hm.ext hE5
  replace hb := hb.ext hE5
  replace hO3 := hO3.ext hE5
  refine call (mtTake_ok h (hO3.rep hok).any (by rw [putE_len]; exact hlen) (by rw [putE_len]; omega) hp2 hxl) ?_
  rintro r3 w6 ⟨hE6, hO6⟩
  refine ⟨hE5.trans hE6, hE0.trans (hE1.trans (hE2.trans (hE3.trans (hE4.trans (hE5.trans hE6))))), impOf n.ends m u v x, ?_, .inl ⟨rfl, hM, u, v, x, hu, hv, hx, hI, hF, rfl⟩⟩
  have := hO6.rep (putE_all hok (by show I64 _; unfold I64; simp only; omega) (by show I64 _; unfold I64; simp only; omega))
  unfold impOf
  rw [he1, he2]
  exact this.any

theorem sImproveMatching_ok {w : World} {a b c s : Sl} {n : Net} {m : List Int} (h : RNet w a b c n) (hm : R w s m) :
    Calls Try.prog F.s_ImproveMatching #[.agg #[a.v, b.v, c.v], s.v] w (Ret [.at .sl, .at .bool] fun (r : Sl) (y : Bool) w' => Ext w w' ∧ ∃ l, R w' r l ∧ ImpAns n m l y) := by
  refine C_s_ImproveMatching ?_
  unfold V_s_ImproveMatching
  refine NEW_intro fun p w1 hp hs hE hb1 => LD_box3 hb1 ?_
  replace h := h.ext hE
  replace hm := hm.ext hE
  refine call (mtAsked_ok h hm) ?_
  rintro x w2 ⟨hx, hE2⟩
  replace h := h.ext hE2
  replace hm := hm.ext hE2
  replace hb1 := hb1.ext hE2
  replace hE := hE.ext hE2
  refine cond_not (fun hf => ⟨hE, [], (OutL.nil 0 _).rep, .inr ⟨rfl, rfl, fun hg => ?_⟩⟩) (fun ht => LD_bs0 hb1 ?_)
  · rw [hx.2 hg.1] at hf; cases hf
  have hM := hx.1 ht
  have hlen := hM.is.1
  have h40 := hM.good.size.2
  rw [h.1.len, ← hlen]
  have hle := hm.le
  refine ⟨IN m.length fun u w' => Ext w2 w' ∧ ∀ u' < u, ∀ v' < m.length, ∀ x' < m.length, ¬ ImpAt n.ends m u' v' x', MN m.length, IN_zero ⟨Ext.refl _, fun u hu => absurd hu (by omega)⟩, ?_⟩
  rintro _ w3 ⟨u, rfl, hu, hE3, hF1⟩
  intros
  refine cond_dec (fun hlt => LD_bs0 (hb1.ext hE3) ?_) (fun hge => ⟨hE.trans hE3, [], (OutL.nil 0 _).rep, .inr ⟨rfl, rfl, ?_⟩⟩)
  rotate_left
  · rintro ⟨_, u', v', x', hu', hv', hx', hI⟩
    exact hF1 u' (by omega) v' hv' x' hx' hI
  rw [h.1.len, ← hlen]
  have hu' : u < m.length := by omega
  refine ⟨IN m.length fun v w' => Ext w2 w' ∧ ∀ v' < v, ∀ x' < m.length, ¬ ImpAt n.ends m u v' x', MN m.length, IN_zero ⟨hE3, fun v hv => absurd hv (by omega)⟩, ?_⟩
  rintro _ w4 ⟨v, rfl, hv, hE4, hF2⟩
  intros
  refine cond_dec (fun hlt2 => ?_) (fun hge => IN_next hle hu' ⟨hE4, all_succ hF1 fun v' hv' => hF2 v' (by omega)⟩)
  have hv' : v < m.length := by omega
  have hue : u < n.ends.length := by omega
  have hve : v < n.ends.length := by omega
  have hgu : m.getD u 0 = m[u] := by simp [hu']
  have hgv : m.getD v 0 = m[v] := by simp [hv']
  have hskip : (∀ x' < m.length, ¬ ImpAt n.ends m u v x') → ∀ w', Ext w4 w' → V_s_ImproveMatching_k6 (IN m.length fun v w' => Ext w2 w' ∧ ∀ v' < v, ∀ x' < m.length, ¬ ImpAt n.ends m u v' x') (MN m.length) (v : Int) w4 w' := fun hn w' hE' => by
    unfold V_s_ImproveMatching_k6
    exact IN_next hle hv' ⟨hE4.trans hE', all_succ hF2 hn⟩
  replace h := h.ext hE4
  replace hm := hm.ext hE4
  replace hb1 := hb1.ext hE4
  replace hE := hE.ext hE4
  refine hm.ixI hu' fun q _ hc => LD_int hc ?_
  refine cond_dec (fun h1 => hskip (fun x' _ hI => by have := hI.free; omega) _ (Ext.refl _)) (fun h1 => ?_)
  refine hm.ixI hv' fun q _ hc => LD_int hc ?_
  refine cond_dec (fun h2 => hskip (fun x' _ hI => by have := hI.taken; omega) _ (Ext.refl _)) (fun h2 => LD_box3 hb1 ?_)
  refine call (mtPort_ok h hue (v : Int)) ?_
  rintro r w5 ⟨rfl, hE5⟩
  refine cond_dec (fun h3 => hskip (fun x' _ hI => (portIx_neg.1 h3) hI.first) _ hE5) (fun h3 => ?_)
  have hfst : (portIx n.ends u (v : Int)).isSome = true := Classical.byContradiction fun hc => h3 (portIx_neg.2 hc)
  obtain ⟨i, wn, y, hi, hpe, hmt, hwl⟩ := mate_at hM hv' (by omega)
  obtain ⟨_, hi2, hee⟩ := port_some hpe
  unfold V_s_ImproveMatching_k7
  replace h := h.ext hE5
  replace hm := hm.ext hE5
  replace hb1 := hb1.ext hE5
  replace hE := hE.ext hE5
  refine LD_bs0 hb1 ?_
  refine h.1.ixL hve fun q s1 hR hc => LD_sl hc ?_
  refine hm.ixI hv' fun q _ hc => LD_int hc ?_
  rw [hi]
  refine hR.ixE hi2 fun q _ _ hc0 hc1 => LD_int hc0 ?_
  rw [hee]
  intro w7 hE7
  replace h := h.ext hE7
  replace hm := hm.ext hE7
  replace hb1 := hb1.ext hE7
  replace hE := hE.ext hE7
  refine LD_bs0 hb1 ?_
  rw [h.1.len, ← hlen]
  refine ⟨IN m.length fun x w' => Ext w7 w' ∧ ∀ x' < x, ¬ ImpAt n.ends m u v x', MN m.length, IN_zero ⟨Ext.refl _, fun v hv => absurd hv (by omega)⟩, ?_⟩
  rintro _ w8 ⟨x, rfl, hx, hE8, hF3⟩
  intros
  replace h := h.ext hE8
  replace hm := hm.ext hE8
  replace hb1 := hb1.ext hE8
  replace hE := hE.ext hE8
  refine cond_dec (fun hlt3 => ?_) (fun hge => hskip (fun x' hx' => hF3 x' (by omega)) _ (hE5.trans (hE7.trans hE8)))
  have hx' : x < m.length := by omega
  have hgx : m.getD x 0 = m[x] := by simp [hx']
  refine cond_eq (fun h5 => IN_next hle hx' ⟨hE8, all_succ hF3 fun hI => hI.ne (by omega)⟩) (fun h5 => ?_)
  refine hm.ixI hx' fun q _ hc => LD_int hc ?_
  refine cond_dec (fun h4 => IN_next hle hx' ⟨hE8, all_succ hF3 fun hI => by have := hI.free2; omega⟩) (fun h4 => LD_box3 hb1 ?_)
  refine call (mtPort_ok h hwl (x : Int)) ?_
  rintro r w9 ⟨rfl, hE9⟩
  refine cond_dec (fun h6 => IN_next hle hx' ⟨hE8.trans hE9, all_succ hF3 fun hI => (portIx_neg.1 h6) (by have := hI.second; rwa [hmt] at this)⟩) (fun h6 => ?_)
  have hsnd : (portIx n.ends wn (x : Int)).isSome = true := Classical.byContradiction fun hc => h6 (portIx_neg.2 hc)
  replace h := h.ext hE9
  replace hm := hm.ext hE9
  replace hb1 := hb1.ext hE9
  replace hE := hE.ext hE9
  have := simprove_k11 (w0 := w) h hm hb1 hM hE (u := u) (v := v) (x := x) hu' hv' hx' ⟨by omega, by omega, hfst, by omega, by omega, by rw [hmt]; exact hsnd⟩ ⟨hF1, hF2, hF3⟩ (by rw [hmt]; exact hwl)
  rw [hmt] at this
  exact this

end Go.Proofs.Ytcilbmkieclelaa
