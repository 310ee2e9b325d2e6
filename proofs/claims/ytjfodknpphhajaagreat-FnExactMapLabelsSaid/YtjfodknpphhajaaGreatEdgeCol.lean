/- Colourings of edges, on both sides. -/
import Derived.Test.YtjfodknpphhajaaGreatGood
import Derived.Test.YtjfodknpphhajaaGreatMatch
import Derived.Test.YtjfodknpphhajaaGreatSorted
namespace Go.Proofs.YtjfodknpphhajaaGreat
open Go.GX Go.RowKit
set_option maxRecDepth 100000

def at2 (l : List (List Int)) (v i : Nat) : Int := (l.getD v []).getD i 0

/-- As many rows as nodes, each as long as the node has ports. -/
def SameRows (E : List (List (Int × Int))) (l : List (List Int)) : Prop := l.length = E.length ∧ ∀ v < l.length, (l.getD v []).length = (E.getD v []).length

def EdgeAt (E : List (List (Int × Int))) (l : List (List Int)) (v i : Nat) : Prop :=
  at2 l ((E.getD v []).getD i (0, 0)).1.toNat ((E.getD v []).getD i (0, 0)).2.toNat = at2 l v i

structure EdgeOk (E : List (List (Int × Int))) (l : List (List Int)) : Prop where
  rows : SameRows E l
  cols : ∀ v < l.length, AllIn (l.getD v []) 0 1000000000000 ∧ (l.getD v []).Nodup
  ends : ∀ v < l.length, ∀ i < (E.getD v []).length, EdgeAt E l v i

theorem rowD {α : Type} {l : List (List α)} {v : Nat} (hv : v < l.length) : l.getD v [] = l[v] := by
  rw [List.getD_eq_getElem?_getD, List.getElem?_eq_getElem hv]; rfl

theorem portsOk_ok {w : World} {a b c s : Sl} {n : Net} {l : List (List Int)} (h : RNet w a b c n) (hl : R w s l) :
    Calls Tryz.prog F.i_portsOk #[.agg #[a.v, b.v, c.v], s.v] w (Ret [.at .bool] fun (x : Bool) w' => (x = true ↔ SameRows n.ends l) ∧ Ext w w') := by
  refine C_i_portsOk ?_
  unfold V_i_portsOk
  refine NEW_intro fun p w1 hp hs hE1 hb1 => LD_bs0 hb1 ?_
  rw [h.1.len, hl.len]
  refine cond_ne (fun hne => ⟨?_, hE1⟩) (fun heq => ?_)
  · simp only [Bool.false_eq_true, false_iff]
    intro hM; have := hM.1; omega
  have hlen : l.length = n.ends.length := by omega
  have hle := hl.le
  refine ⟨IN l.length fun v w' => w' = w1 ∧ ∀ u < v, (l.getD u []).length = (n.ends.getD u []).length, MN l.length, IN_zero ⟨rfl, fun u hu => absurd hu (by omega)⟩, ?_⟩
  rintro _ _ ⟨v, rfl, hv, rfl, hI⟩
  intros
  refine cond_dec (fun hlt => ?_) (fun hge => ⟨?_, hE1⟩)
  · have hv' : v < l.length := by omega
    have hve : v < n.ends.length := by omega
    refine (hl.ext hE1).ixL hv' fun q s1 hR1 hc => LD_sl hc ?_
    refine LD_bs0 hb1 ?_
    refine (h.ext hE1).1.ixL hve fun q s2 hR2 hc => LD_sl hc ?_
    rw [hR1.len, hR2.len]
    refine cond_ne (fun hne => ⟨?_, hE1⟩) (fun he => ?_)
    · simp only [Bool.false_eq_true, false_iff]
      intro hM
      have := hM.2 v hv'
      rw [rowD hv', rowD hve] at this
      omega
    · exact IN_next hle hv' ⟨rfl, all_succ hI (by rw [rowD hv', rowD hve]; omega)⟩
  · have : v = l.length := by omega
    subst this
    simp only [true_iff]
    exact ⟨hlen, hI⟩

theorem endD {E : List (List (Int × Int))} {v i : Nat} (hv : v < E.length) (hi : i < E[v].length) : (E.getD v []).getD i (0, 0) = E[v][i] := by
  rw [rowD hv, List.getD_eq_getElem?_getD, List.getElem?_eq_getElem hi]; rfl

theorem at2_get {l : List (List Int)} {v i : Nat} (hv : v < l.length) (hi : i < l[v].length) : at2 l v i = l[v][i] := by
  unfold at2
  rw [rowD hv, List.getD_eq_getElem?_getD, List.getElem?_eq_getElem hi]; rfl
