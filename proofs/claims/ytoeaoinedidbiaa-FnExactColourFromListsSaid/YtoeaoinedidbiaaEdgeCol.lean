/- Colourings of edges, on both sides. -/
import Derived.Test.YtoeaoinedidbiaaGood
import Derived.Test.YtoeaoinedidbiaaMatch
import Derived.Test.YtoeaoinedidbiaaSorted
namespace Go.Proofs.Ytoeaoinedidbiaa
open Go.GX Go.RowKit
set_option maxRecDepth 100000

def at2 (l : List (List Int)) (v i : Nat) : Int := (l.getD v []).getD i 0

/-- As many rows as nodes, each as long as the node has ports. -/
def SameRows (E : List (List (Int × Int))) (l : List (List Int)) : Prop := l.length = E.length ∧ ∀ v < l.length, (l.getD v []).length = (E.getD v []).length

def EdgeAt (E : List (List (Int × Int))) (l : List (List Int)) (v i : Nat) : Prop :=
  at2 l ((E.getD v []).getD i (0, 0)).1.toNat ((E.getD v []).getD i (0, 0)).2.toNat = at2 l v i

structure EdgeOk (E : List (List (Int × Int))) (l : List (List Int)) : Prop where
  rows : SameRows E l
  cols : ∀ v < l.length, AllIn (l.getD v []) 0 1000000000000 ∧ (l.getD v []).Nodup
  ends : ∀ v < l.length, ∀ i < (E.getD v []).length, EdgeAt E l v i

theorem rowD {α : Type} {l : List (List α)} {v : Nat} (hv : v < l.length) : l.getD v [] = l[v] := by
  rw [List.getD_eq_getElem?_getD, List.getElem?_eq_getElem hv]; rfl

theorem portsOk_ok {w : World} {a b c s : Sl} {n : Net} {l : List (List Int)} (h : RNet w a b c n) (hl : R w s l) :
    Calls Try.prog F.i_portsOk #[.agg #[a.v, b.v, c.v], s.v] w (Ret [.at .bool] fun (x : Bool) w' => (x = true ↔ SameRows n.ends l) ∧ Ext w w') := by
  refine C_i_portsOk ?_
  unfold V_i_portsOk
  refine NEW_intro fun p w1 hp hs hE1 hb1 => LD_bs0 hb1 ?_
  rw [h.1.len, hl.len]
  refine cond_ne (fun hne => ⟨?_, hE1⟩) (fun heq => ?_)
  · simp only [Bool.false_eq_true, false_iff]
    intro hM; have := hM.1; omega
  have hlen : l.length = n.ends.length := by omega
  have hle := hl.le
  refine ⟨IN l.length fun v w' => w' = w1 ∧ ∀ u < v, (l.getD u []).length = (n.ends.getD u []).length, MN l.length, IN_zero ⟨rfl, fun u hu => absurd hu (by omega)⟩, ?_⟩
  rintro _ _ ⟨v, rfl, hv, rfl, hI⟩
  intros
  refine cond_dec (fun hlt => ?_) (fun hge => ⟨?_, hE1⟩)
  · have hv' : v < l.length := by omega
    have hve : v < n.ends.length := by omega
    refine (hl.ext hE1).ixL hv' fun q s1 hR1 hc => LD_sl hc ?_
    refine LD_bs0 hb1 ?_
    refine (h.ext hE1).1.ixL hve fun q s2 hR2 hc => LD_sl hc ?_
    rw [hR1.len, hR2.len]
    refine cond_ne (fun hne => ⟨?_, hE1⟩) (fun he => ?_)
    · simp only [Bool.false_eq_true, false_iff]
      intro hM
      have := hM.2 v hv'
      rw [rowD hv', rowD hve] at this
      omega
    · exact IN_next hle hv' ⟨rfl, all_succ hI (by rw [rowD hv', rowD hve]; omega)⟩
  · have : v = l.length := by omega
    subst this
    simp only [true_iff]
    exact ⟨hlen, hI⟩

theorem endD {E : List (List (Int × Int))} {v i : Nat} (hv : v < E.length) (hi : i < E[v].length) : (E.getD v []).getD i (0, 0) = E[v][i] := by
  rw [rowD hv, List.getD_eq_getElem?_getD, List.getElem?_eq_getElem hi]; rfl

theorem at2_get {l : List (List Int)} {v i : Nat} (hv : v < l.length) (hi : i < l[v].length) : at2 l v i = l[v][i] := by
  unfold at2
  rw [rowD hv, List.getD_eq_getElem?_getD, List.getElem?_eq_getElem hi]; rfl

theorem isEdgeColouring_ok {w : World} {a b c s : Sl} {n : Net} {l : List (List Int)} (h : RNet w a b c n) (hl : R w s l) (hg : Good n) :
    Calls Try.prog F.i_isEdgeColouring #[.agg #[a.v, b.v, c.v], s.v] w (Ret [.at .bool] fun (x : Bool) w' => (x = true ↔ EdgeOk n.ends l) ∧ Ext w w') := by
  refine C_i_isEdgeColouring ?_
  unfold V_i_isEdgeColouring
  refine NEW_intro fun p w1 hp hs hE1 hb1 => LD_box3 hb1 ?_
  refine call (portsOk_ok (h.ext hE1) (hl.ext hE1)) ?_
  rintro x w2 ⟨hx, hE2⟩
  have hE02 := hE1.trans hE2
  refine cond_not (fun hf => ⟨?_, hE02⟩) (fun ht => ?_)
  · subst hf
    simp only [Bool.false_eq_true, false_iff] at hx ⊢
    exact fun hM => hx hM.rows
  have hrows := hx.1 ht
  have hlen := hrows.1
  have hle := hl.le
  have hrow : ∀ (v : Nat) (hv : v < l.length) (hve : v < n.ends.length), l[v].length = n.ends[v].length := fun v hv hve => by
    have := hrows.2 v hv; rwa [rowD hv, rowD hve] at this
  rw [hl.len]
  refine ⟨IN l.length fun v w' => Ext w2 w' ∧ ∀ u < v, (AllIn (l.getD u []) 0 1000000000000 ∧ (l.getD u []).Nodup) ∧ ∀ i < (n.ends.getD u []).length, EdgeAt n.ends l u i, MN l.length, IN_zero ⟨Ext.refl _, fun u hu => absurd hu (by omega)⟩, ?_⟩
  rintro _ w3 ⟨v, rfl, hv, hE3, hI⟩
  intros
  have hE03 := hE02.trans hE3
  refine cond_dec (fun hlt => ?_) (fun hge => ⟨?_, hE03⟩)
  · have hv' : v < l.length := by omega
    have hve : v < n.ends.length := by omega
    have hdeg := hg.deg hve
    refine (hl.ext hE03).ixL hv' fun q s1 hR1 hc => LD_sl hc ?_
    refine values_ok fun w4 hE4 hc4 => ?_
    refine call (sorted_ok hc4 (hR1.any.ext hE4) (by have := hrow v hv' hve; omega)) ?_
    rintro r w5 ⟨hE5, hO5⟩
    refine call (increasing_ok (hO5.rep (fun x hx => flat_ok hR1.any x ((sortI_perm _).mem_iff.1 hx))).any 0 1000000000000) ?_
    rintro y _ ⟨hy, rfl⟩
    have hE35 := hE4.trans hE5
    have hE05 := hE03.trans hE35
    unfold Rising at hy
    rw [allIn_sortI, incr_sortI] at hy
    refine cond_not (fun hf => ⟨?_, hE05⟩) (fun ht2 => ?_)
    · subst hf
      simp only [Bool.false_eq_true, false_iff] at hy ⊢
      intro hM
      have := hM.cols v hv'
      rw [rowD hv'] at this
      exact hy this
    have hcol := hy.1 ht2
    have hb5 := (hb1.ext hE2).ext (hE3.trans hE35)
    refine LD_bs0 hb5 ?_
    refine (h.ext hE05).1.ixL hve fun q s2 hR2 hc => LD_sl hc ?_
    rw [hR2.len]
    refine ⟨IN n.ends[v].length fun i w' => Ext w5 w' ∧ ∀ j < i, EdgeAt n.ends l v j, MN n.ends[v].length, IN_zero ⟨Ext.refl _, fun u hu => absurd hu (by omega)⟩, ?_⟩
    rintro _ w6 ⟨i, rfl, hi, hE6, hJ⟩
    intros
    have hE06 := hE05.trans hE6
    refine cond_dec (fun hlt2 => ?_) (fun hge2 => ?_)
    · have hi' : i < n.ends[v].length := by omega
      have hi2 : i < l[v].length := by rw [hrow v hv' hve]; exact hi'
      refine (hR2.ext hE6).ixE hi' fun q _ _ hc0 hc1 => LD_int2 hc0 hc1 ?_
      refine NEW_ST (one2 _ _) rfl fun p6 w7 hp6 hE7 hb6 => ?_
      have hE07 := hE06.trans hE7
      obtain ⟨x, y', hxy, hback⟩ := hg.back hve hi'
      obtain ⟨hx1, hy1, _⟩ := port_some hback
      have hxl : x < l.length := by omega
      have hyl : y' < l[x].length := by rw [hrow x hxl hx1]; exact hy1
      refine ((hR1.any.ext (hE35.trans hE6)).ext hE7).ixI hi2 fun q _ hc => LD_int hc ?_
      refine LD_bi0 hb6 ?_
      rw [hxy]
      refine (hl.ext hE07).ixL hxl fun q s3 hR3 hc => LD_sl hc ?_
      refine LD_bi1 hb6 ?_
      rw [hxy]
      refine hR3.ixI hyl fun q _ hc => LD_int hc ?_
      intro w8 hE8
      have hat : EdgeAt n.ends l v i ↔ l[x][y'] = l[v][i] := by
        unfold EdgeAt
        rw [endD hve hi', hxy, at2_get hv' hi2]
        simp only [Int.toNat_natCast]
        rw [at2_get hxl hyl]
      refine cond_ne (fun hne => ⟨?_, hE07.trans hE8⟩) (fun he => ?_)
      · simp only [Bool.false_eq_true, false_iff]
        intro hM
        have := hM.ends v hv' i (by rw [rowD hve]; exact hi')
        exact hne (hat.1 this).symm
      · exact IN_next (by omega) hi' ⟨(hE6.trans hE7).trans hE8, all_succ hJ (hat.2 he.symm)⟩
    · have : i = n.ends[v].length := by omega
      subst this
      exact IN_next hle hv' ⟨(hE3.trans hE35).trans hE6, all_succ hI ⟨by rw [rowD hv']; exact hcol, fun j hj => hJ j (by rw [rowD hve] at hj; exact hj)⟩⟩
  · have : v = l.length := by omega
    subst this
    simp only [true_iff]
    exact ⟨hrows, fun v hv => (hI v hv).1, fun v hv => (hI v hv).2⟩

theorem clEdges_ok {w : World} {a b c s : Sl} {n : Net} {l : List (List Int)} (h : RNet w a b c n) (hl : R w s l) (hg : Good n) :
    Calls Try.prog F.s_clEdges #[.agg #[a.v, b.v, c.v], s.v] w (Ret [.at .bool] fun (x : Bool) w' => (x = true ↔ EdgeOk n.ends l) ∧ Ext w w') := by
  refine C_s_clEdges ?_
  unfold V_s_clEdges
  refine NEW_intro fun p w1 hp hs hE1 hb1 => LD_bs0 hb1 ?_
  rw [h.1.len, hl.len]
  refine cond_ne (fun hne => ⟨?_, hE1⟩) (fun heq => ?_)
  · simp only [Bool.false_eq_true, false_iff]
    intro hM; have := hM.rows.1; omega
  have hlen : l.length = n.ends.length := by omega
  have hle := hl.le
  refine ⟨IN l.length fun v w' => w' = w1 ∧ ∀ u < v, (l.getD u []).length = (n.ends.getD u []).length ∧ AllIn (l.getD u []) 0 1000000000000 ∧ (l.getD u []).Nodup, MN l.length, IN_zero ⟨rfl, fun u hu => absurd hu (by omega)⟩, ?_⟩
  rintro _ w1 ⟨v, rfl, hv, rfl, hI⟩
  intros
  refine cond_dec (fun hlt => ?_) (fun hge => ?_)
  · have hv' : v < l.length := by omega
    have hve : v < n.ends.length := by omega
    refine (hl.ext hE1).ixL hv' fun q s1 hR1 hc => LD_sl hc ?_
    refine LD_bs0 hb1 ?_
    refine (h.ext hE1).1.ixL hve fun q s2 hR2 hc => LD_sl hc ?_
    rw [hR1.len, hR2.len]
    refine cond_ne (fun hne => ⟨?_, hE1⟩) (fun he => ?_)
    · simp only [Bool.false_eq_true, false_iff]
      intro hM
      have := hM.rows.2 v hv'
      rw [rowD hv', rowD hve] at this
      omega
    refine call (l1All_ok hR1.any 0 1000000000000) ?_
    rintro y _ ⟨hy, rfl⟩
    refine cond_not (fun hf => ⟨?_, hE1⟩) (fun ht2 => ?_)
    · subst hf
      simp only [Bool.false_eq_true, false_iff] at hy ⊢
      intro hM
      have := (hM.cols v hv').1
      rw [rowD hv'] at this
      exact hy this
    have hall := hy.1 ht2
    have hle1 := hR1.any.le
    refine ⟨IN l[v].length fun i w' => w' = w1 ∧ (l[v].take i).Nodup, MN l[v].length, IN_zero ⟨rfl, by simp⟩, ?_⟩
    rintro _ w1 ⟨i, rfl, hi, rfl, hN⟩
    intros
    refine cond_dec (fun hlt2 => ?_) (fun hge2 => ?_)
    · have hi' : i < l[v].length := by omega
      refine hR1.any.ixI hi' fun q _ hc => LD_int hc ?_
      refine hR1.any.take (by omega) rfl fun s' hs' => ?_
      refine call (l1Has_ok hs' _) ?_
      rintro z _ ⟨rfl, rfl⟩
      refine cond_b (fun hc => ⟨?_, hE1⟩) (fun hc => IN_next hle1 hi' ⟨rfl, nodup_take_succ hi' hN (by simpa using hc)⟩)
      simp only [Bool.false_eq_true, false_iff]
      intro hM
      have hnd := (hM.cols v hv').2
      rw [rowD hv'] at hnd
      have hmem : l[v][i] ∈ l[v].take i := by simpa using hc
      obtain ⟨j, hj, hje⟩ := List.mem_take_iff_getElem.1 hmem
      exact (List.pairwise_iff_getElem.1 hnd j i (by omega) hi' (by omega)) hje
    · have : i = l[v].length := by omega
      subst this
      refine IN_next hle hv' ⟨rfl, all_succ hI ⟨by rw [rowD hv', rowD hve]; omega, by rw [rowD hv']; exact hall, ?_⟩⟩
      rw [rowD hv']; simpa using hN
  · have : v = l.length := by omega
    subst this
    have hrow : ∀ (v : Nat) (hv : v < l.length) (hve : v < n.ends.length), l[v].length = n.ends[v].length := fun v hv hve => by
      have := (hI v hv).1; rwa [rowD hv, rowD hve] at this
    refine ⟨IN l.length fun v w' => Ext w1 w' ∧ ∀ u < v, ∀ i < (n.ends.getD u []).length, EdgeAt n.ends l u i, MN l.length, IN_zero ⟨Ext.refl _, fun u hu => absurd hu (by omega)⟩, ?_⟩
    rintro _ w3 ⟨v, rfl, hv, hE3, hI2⟩
    intros
    have hE03 := hE1.trans hE3
    refine cond_dec (fun hlt => ?_) (fun hge => ⟨?_, hE03⟩)
    · have hv' : v < l.length := by omega
      have hve : v < n.ends.length := by omega
      have hdeg := hg.deg hve
      refine (hl.ext hE03).ixL hv' fun q s1 hR1 hc => LD_sl hc ?_
      refine LD_bs0 (hb1.ext hE3) ?_
      refine (h.ext hE03).1.ixL hve fun q s2 hR2 hc => LD_sl hc ?_
      rw [hR2.len]
      refine ⟨IN n.ends[v].length fun i w' => Ext w3 w' ∧ ∀ j < i, EdgeAt n.ends l v j, MN n.ends[v].length, IN_zero ⟨Ext.refl _, fun u hu => absurd hu (by omega)⟩, ?_⟩
      rintro _ w6 ⟨i, rfl, hi, hE6, hJ⟩
      intros
      have hE06 := hE03.trans hE6
      refine cond_dec (fun hlt2 => ?_) (fun hge2 => ?_)
      · have hi' : i < n.ends[v].length := by omega
        have hi2 : i < l[v].length := by rw [hrow v hv' hve]; exact hi'
        refine (hR2.ext hE6).ixE hi' fun q _ _ hc0 hc1 => LD_int2 hc0 hc1 ?_
        refine NEW_ST (one2 _ _) rfl fun p6 w7 hp6 hE7 hb6 => ?_
        have hE07 := hE06.trans hE7
        obtain ⟨x, y', hxy, hback⟩ := hg.back hve hi'
        obtain ⟨hx1, hy1, _⟩ := port_some hback
        have hxl : x < l.length := by omega
        have hyl : y' < l[x].length := by rw [hrow x hxl hx1]; exact hy1
        refine LD_bi0 hb6 ?_
        rw [hxy]
        refine (hl.ext hE07).ixL hxl fun q s3 hR3 hc => LD_sl hc ?_
        refine LD_bi1 hb6 ?_
        rw [hxy]
        refine hR3.ixI hyl fun q _ hc => LD_int hc ?_
        refine ((hR1.any.ext hE6).ext hE7).ixI hi2 fun q _ hc => LD_int hc ?_
        intro w8 hE8
        have hat : EdgeAt n.ends l v i ↔ l[x][y'] = l[v][i] := by
          unfold EdgeAt
          rw [endD hve hi', hxy, at2_get hv' hi2]
          simp only [Int.toNat_natCast]
          rw [at2_get hxl hyl]
        refine cond_ne (fun hne => ⟨?_, hE07.trans hE8⟩) (fun he => ?_)
        · simp only [Bool.false_eq_true, false_iff]
          intro hM
          have := hM.ends v hv' i (by rw [rowD hve]; exact hi')
          exact hne (hat.1 this)
        · exact IN_next (by omega) hi' ⟨(hE6.trans hE7).trans hE8, all_succ hJ (hat.2 he)⟩
      · have : i = n.ends[v].length := by omega
        subst this
        exact IN_next hle hv' ⟨hE3.trans hE6, all_succ hI2 (fun j hj => hJ j (by rw [rowD hve] at hj; exact hj))⟩
    · have : v = l.length := by omega
      subst this
      simp only [true_iff]
      exact ⟨⟨hlen, fun v hv => (hI v hv).1⟩, fun v hv => (hI v hv).2, hI2⟩

theorem IsEdgeColouring_ok {w : World} {a b c s : Sl} {n : Net} {m : List (List Int)} (h : RNet w a b c n) (hm : R w s m) (hn : Small n) :
    Calls Try.prog F.i_IsEdgeColouring #[.agg #[a.v, b.v, c.v], s.v] w (Ret [.at .bool, .at .bool] fun (x y : Bool) w' => Ans2 (Good n) (EdgeOk n.ends m) x y ∧ Ext w w') := by
  refine C_i_IsEdgeColouring ?_
  unfold V_i_IsEdgeColouring
  refine NEW_intro fun p w1 hp hs hE1 hb1 => LD_box3 hb1 ?_
  refine call (isNetwork_ok (h.ext hE1) hn.2.2.1) ?_
  rintro x w2 ⟨hx, hE2⟩
  have hE := hE1.trans hE2
  refine cond_not (fun hf => ⟨?_, hE⟩) (fun ht => ?_)
  · subst hf; simp at hx; exact ⟨by simp [hx], by simp [hx]⟩
  have hg := hx.1 ht
  refine LD_box3 (hb1.ext hE2) ?_
  refine call (isEdgeColouring_ok (h.ext hE) (hm.ext hE) hg) ?_
  rintro y w3 ⟨hy, hE3⟩
  exact ⟨⟨by rw [hy]; simp [hg], by simp [hg]⟩, hE.trans hE3⟩


theorem sIsEdgeColouring_ok {w : World} {a b c s : Sl} {n : Net} {m : List (List Int)} (h : RNet w a b c n) (hm : R w s m)  :
    Calls Try.prog F.s_IsEdgeColouring #[.agg #[a.v, b.v, c.v], s.v] w (Ret [.at .bool, .at .bool] fun (x y : Bool) w' => Ans2 (Good n) (EdgeOk n.ends m) x y ∧ Ext w w') := by
  refine C_s_IsEdgeColouring ?_
  unfold V_s_IsEdgeColouring
  refine NEW_intro fun p w1 hp hs hE1 hb1 => LD_box3 hb1 ?_
  refine call (neGood_ok (h.ext hE1)) ?_
  rintro x w2 ⟨hx, hE2⟩
  have hE := hE1.trans hE2
  refine cond_not (fun hf => ⟨?_, hE⟩) (fun ht => ?_)
  · subst hf; simp at hx; exact ⟨by simp [hx], by simp [hx]⟩
  have hg := hx.1 ht
  refine LD_box3 (hb1.ext hE2) ?_
  refine call (clEdges_ok (h.ext hE) (hm.ext hE) hg) ?_
  rintro y w3 ⟨hy, hE3⟩
  exact ⟨⟨by rw [hy]; simp [hg], by simp [hg]⟩, hE.trans hE3⟩


end Go.Proofs.Ytoeaoinedidbiaa
