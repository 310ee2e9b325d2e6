/- Own texts, merged: GmM, GmF, GreatestMatchingWalk, Trod, Open, Door, CardFrame. -/
import Derived.Test.YtaeledhbkdakcaaDoorM2
import Derived.Deep.Slices
import Derived.Lib.SmallJoins
import Derived.OpenShut
import Derived.ShutString
import Derived.ChangeOld
import Derived.Carry
import Derived.ProofKit
import Derived.Test.YtaeledhbkdakcaaDoorRows
import Derived.KernelRfl
import Derived.JoinedOf
import Derived.HandedShaped
import Derived.Handed
import Derived.Shelf.Vars
import Derived.Lib.LaidTab
import Derived.MakeChecks
import Derived.LaidMore
import Derived.Lay
import Derived.Stop.Joined
import Derived.LaidLaws
set_option linter.unusedVariables false
section
/- GreatestMatching, the program: the nodes are taken one after the other. -/
namespace Go.Proofs.YtaeledhbkdakcaaDoor
open Go.GX Go.RowKit
set_option maxRecDepth 100000

structure NetL (w : World) (L : Nat) (a b c : Sl) (n : Net) : Prop where
  e : SlR (fun q => q < L) w a n.ends
  i : SlR (fun q => q < L) w b n.ids
  p : SlR (fun q => q < L) w c n.inputs
theorem NetL.of {w : World} {a b c : Sl} {n : Net} (h : RNet w a b c n) : NetL w w.heap.size a b c n :=
  ⟨h.1.below.weak (fun _ h1 _ => h1.2) RepP.pos, h.2.1.below.weak (fun _ h1 _ => h1.2) RepP.pos, h.2.2.below.weak (fun _ h1 _ => h1.2) RepP.pos⟩
theorem NetL.chg {w w' : World} {L : Nat} {a b c : Sl} {n : Net} {D : Nat → Prop} (h : NetL w L a b c n) (hc : Chg w w' D) (hD : ∀ q, D q → L ≤ q) : NetL w' L a b c n :=
  ⟨h.e.chg hc fun q h1 _ h2 => by have := hD q h2; omega, h.i.chg hc fun q h1 _ h2 => by have := hD q h2; omega, h.p.chg hc fun q h1 _ h2 => by have := hD q h2; omega⟩
theorem NetL.netB {w : World} {L B : Nat} {a b c : Sl} {n : Net} (h : NetL w L a b c n) (hB : L ≤ B) : NetB w B a b c n :=
  ⟨h.e.weak (fun q h1 _ e => by omega) RepP.pos, h.i.weak (fun q h1 _ e => by omega) RepP.pos, h.p.weak (fun q h1 _ e => by omega) RepP.pos⟩
theorem GT.chg {w w' : World} {L : Nat} {D : Nat → Prop} (h : GT w) (hl : Srt.lays727_ren.g 1 < L) (hc : Chg w w' D) (hD : ∀ q, D q → L ≤ q) : GT w' := fun j hj => by
  have h1 := h j hj
  rw [World.cell?_of_block (hc.block _ (cell_lt h1) fun h2 => by have := hD _ h2; simp only at this; omega)]; exact h1

/-- How the blocks lie. -/
structure GmSep (p4 p6 : Addr) (s : Sl) (mb base L : Nat) : Prop where
  a : L ≤ mb
  b : mb < p4.block
  c : p4.block < base
  d : base ≤ p6.block
  e : ∀ q, oB s q → base ≤ q ∧ q < p6.block
def gmD (p6 : Addr) (s : Sl) (mb : Nat) (q : Nat) : Prop := q = mb ∨ q = p6.block ∨ oB s q
theorem GmSep.low {p4 p6 : Addr} {s : Sl} {mb base L : Nat} (h : GmSep p4 p6 s mb base L) : ∀ q, gmD p6 s mb q → L ≤ q := by
  obtain ⟨h1, h2, h3, h4, h5⟩ := h
  rintro q (rfl | rfl | h6)
  · exact h1
  · omega
  · have := h5 q h6; omega

/-- What lies in memory. -/
structure GmMem (n : Net) (a b c s : Sl) (mb : Nat) (p4 p6 : Addr) (base : Nat) (w0 w : World) (m : List Int) (set : Nat) : Prop where
  own : OwnL w base T.t_int s m
  b6 : Box w p6 T.t_uint [.int .u64 (set : Int)]
  b4 : Box w p4 T.t_i_matcher [a.v, b.v, c.v, .map (some mb)]
  memo : MemoR w mb (fun s v => v = sizeG n.ends s)
  chg : Chg w0 w (gmD p6 s mb)
section
variable {n : Net} {a b c s : Sl} {mb : Nat} {p4 p6 : Addr} {base L : Nat} {w0 w w' : World} {m : List Int} {set : Nat}
theorem GmMem.ext (h : GmMem n a b c s mb p4 p6 base w0 w m set) (hE : Ext w w') : GmMem n a b c s mb p4 p6 base w0 w' m set :=
  ⟨h.own.ext hE, h.b6.ext hE, h.b4.ext hE, h.memo.ext hE, h.chg.trans (.of_ext hE)⟩
theorem GmMem.size (h : GmMem n a b c s mb p4 p6 base w0 w m set) (hs : GmSep p4 p6 s mb base L) (hc : Chg w w' (fun q => q = mb)) (hM : MemoR w' mb (fun s v => v = sizeG n.ends s)) : GmMem n a b c s mb p4 p6 base w0 w' m set := by
  obtain ⟨h1, h2, h3, h4, h5⟩ := hs
  exact ⟨h.own.chg hc fun q hq e => by have := h5 q hq; omega, h.b6.chg hc (by omega), h.b4.chg hc (by omega), hM, h.chg.trans (hc.mono fun q e => .inl e)⟩
theorem GmMem.set6 (h : GmMem n a b c s mb p4 p6 base w0 w m set) (hs : GmSep p4 p6 s mb base L) {set' : Nat} (hc : Chg w w' (fun q => q = p6.block)) (hb : Box w' p6 T.t_uint [.int .u64 (set' : Int)]) : GmMem n a b c s mb p4 p6 base w0 w' m set' := by
  obtain ⟨h1, h2, h3, h4, h5⟩ := hs
  exact ⟨h.own.chg hc fun q hq e => by have := h5 q hq; omega, hb, h.b4.chg hc (by omega), h.memo.of_block (hc.block _ h.memo.lt (by omega)), h.chg.trans (hc.mono fun q e => .inr (.inl e))⟩
theorem GmMem.setm (h : GmMem n a b c s mb p4 p6 base w0 w m set) (hs : GmSep p4 p6 s mb base L) {m' : List Int} (hst : Step w w' s.v.ownBlock) (hO : OwnL w' base T.t_int s m') : GmMem n a b c s mb p4 p6 base w0 w' m' set := by
  obtain ⟨h1, h2, h3, h4, h5⟩ := hs
  have hc : Chg w w' (oB s) := .of_step hst fun k hk => hk
  exact ⟨hO, h.b6.chg hc fun e => by have := h5 _ e; omega, h.b4.chg hc fun e => by have := h5 _ e; omega, h.memo.of_block (hc.block _ h.memo.lt fun e => by have := h5 _ e; omega), h.chg.trans (hc.mono fun q e => .inr (.inr e))⟩
end

/-- What it means. -/
structure GmLog (n : Net) (v : Nat) (m : List Int) (set : Nat) : Prop where
  len : m.length = n.ends.length
  lt : set < 2 ^ n.ends.length
  bits : ∀ u, set.testBit u = (decide (v ≤ u) && freeN m u)
  i64 : ∀ x ∈ m, I64 x
  best : bst n.ends n.ends.length (n.ends.length - v) m = gmOf n

def GmI (n : Net) (a b c s : Sl) (mb : Nat) (p4 p6 : Addr) (base : Nat) (w0 : World) (v : Nat) (w : World) : Prop := ∃ m set, GmMem n a b c s mb p4 p6 base w0 w m set ∧ GmLog n v m set

theorem GmLog.size {n : Net} {v : Nat} {m : List Int} {set : Nat} (h : GmLog n v m set) (hv : v < n.ends.length) : sizeG n.ends set = optV n.ends n.ends.length (n.ends.length - v) (freeN m) := by
  rw [sizeG_low hv fun i hi => by rw [h.bits, decide_eq_false (by omega)]; rfl]
  refine optV_congr _ (by omega) fun u hu => ?_
  show set.testBit u = _
  rw [h.bits, decide_eq_true (by omega), Bool.true_and]
theorem GmLog.skip {n : Net} {v : Nat} {m : List Int} {set : Nat} (h : GmLog n v m set) (hv : v < n.ends.length) (hf : set.testBit v = false) : GmLog n (v + 1) m set := by
  have hb := h.bits v
  rw [hf, decide_eq_true (Nat.le_refl _), Bool.true_and] at hb
  refine ⟨h.len, h.lt, fun u => ?_, h.i64, ?_⟩
  · by_cases e : u = v
    · subst e; rw [hf, decide_eq_false (by omega)]; rfl
    · rw [h.bits]
      by_cases h1 : v ≤ u
      · rw [decide_eq_true h1, decide_eq_true (by omega)]
      · rw [decide_eq_false h1, decide_eq_false (by omega)]
  · rw [← h.best]
    have e : n.ends.length - v = (n.ends.length - (v + 1)) + 1 := by omega
    rw [e]
    exact (bst_skip (by rw [show n.ends.length - (n.ends.length - (v + 1) + 1) = v by omega]; exact hb.symm)).symm
/-- A free node's set without it. -/
theorem GmLog.rest {n : Net} {v : Nat} {m : List Int} {set : Nat} (h : GmLog n v m set) (h14 : n.ends.length ≤ 14) (hv : v < n.ends.length) : ∀ u, (clrN set v).testBit u = (decide (v + 1 ≤ u) && freeN m u) := fun u => by
  have hsz : set < 18446744073709551616 := Nat.lt_of_lt_of_le h.lt (Nat.le_trans (Nat.pow_le_pow_right (by decide) h14) (by decide))
  rw [clrN_bit hsz (by omega), h.bits]
  by_cases e : u = v
  · subst e; rw [decide_eq_false (show ¬ u + 1 ≤ u by omega)]; simp
  · by_cases h1 : v ≤ u
    · simp [e, h1, show v + 1 ≤ u by omega]
    · simp [h1, show ¬ v + 1 ≤ u by omega]
theorem GmLog.size' {n : Net} {v : Nat} {m : List Int} {set : Nat} (h : GmLog n v m set) (h14 : n.ends.length ≤ 14) (hv : v < n.ends.length) : sizeG n.ends (clrN set v) = optV n.ends n.ends.length (n.ends.length - (v + 1)) (freeN m) :=
  sizeG_rest (s := clrN set v) hv (fun i hi => by rw [h.rest h14 hv, decide_eq_false (by omega)]; rfl) (fun _ _ => rfl) |>.trans (optV_congr _ (by omega) fun u hu => by
    show (clrN set v).testBit u = _
    rw [h.rest h14 hv, decide_eq_true (by omega), Bool.true_and])
theorem GmLog.free {n : Net} {v : Nat} {m : List Int} {set : Nat} (hg : Good n) (h : GmLog n v m set) (h14 : n.ends.length ≤ 14) (hv : v < n.ends.length) (hf : set.testBit v = true) (he : sizeG n.ends (clrN set v) = sizeG n.ends set) : GmLog n (v + 1) m (clrN set v) := by
  have hb := h.bits v
  rw [hf, decide_eq_true (Nat.le_refl _), Bool.true_and] at hb
  have ev : n.ends.length - v = (n.ends.length - (v + 1)) + 1 := by omega
  have ek : n.ends.length - (n.ends.length - (v + 1) + 1) = v := by omega
  refine ⟨h.len, Nat.lt_of_le_of_lt (clrN_le _ _) h.lt, h.rest h14 hv, h.i64, ?_⟩
  rw [h.size hv, h.size' h14 hv, ev] at he
  rw [← h.best, ev]
  exact (bst_free (EndsIn.of_good hg) (by omega) h.len (by rw [ek]; exact hb.symm) he).symm
/-- The port that the program looks for. -/
def gmP (E : Ends) (set : Nat) (want : Int) (e : Int × Int) : Bool := set.testBit e.1.toNat && decide (1 + ((sizeG E (clrN set e.1.toNat) : Nat) : Int) = want)
theorem GmLog.hit {n : Net} {v : Nat} {m : List Int} {set : Nat} (h : GmLog n v m set) (h14 : n.ends.length ≤ 14) (hv : v < n.ends.length) (e : Int × Int) : gmP n.ends (clrN set v) (sizeG n.ends set : Nat) e = true ↔
    (mayE v (freeN m) e = true ∧ 1 + optV n.ends n.ends.length (n.ends.length - (v + 1)) (outN (freeN m) e.1.toNat) = optV n.ends n.ends.length (n.ends.length - v) (freeN m)) := by
  have hsz : set < 18446744073709551616 := Nat.lt_of_lt_of_le h.lt (Nat.le_trans (Nat.pow_le_pow_right (by decide) h14) (by decide))
  have hrz : clrN set v < 18446744073709551616 := Nat.lt_of_le_of_lt (clrN_le _ _) hsz
  unfold gmP
  have e1 : (clrN set v).testBit e.1.toNat = mayE v (freeN m) e := by
    rw [h.rest h14 hv]; rfl
  rw [e1, Bool.and_eq_true, decide_eq_true_iff]
  refine and_congr_right fun hm => ?_
  have hx : v < e.1.toNat ∧ e.1.toNat < n.ends.length := by
    unfold mayE freeN at hm
    simp at hm
    have h2 := hm.1
    have h3 := hm.2.1
    have h4 := h.len
    exact ⟨by omega, by omega⟩
  have e2 : sizeG n.ends (clrN (clrN set v) e.1.toNat) = optV n.ends n.ends.length (n.ends.length - (v + 1)) (outN (freeN m) e.1.toNat) := by
    have hb : ∀ u, (clrN (clrN set v) e.1.toNat).testBit u = ((decide (v + 1 ≤ u) && freeN m u) && decide (u ≠ e.1.toNat)) := fun u => by
      rw [clrN_bit hrz (by omega), h.rest h14 hv]
    refine (sizeG_rest (s := clrN (clrN set v) e.1.toNat) hv (fun i hi => by rw [hb, decide_eq_false (show ¬ v + 1 ≤ i by omega)]; rfl) (fun _ _ => rfl)).trans (optV_congr _ (by omega) fun u hu => ?_)
    show (clrN (clrN set v) e.1.toNat).testBit u = _
    rw [hb, decide_eq_true (show v + 1 ≤ u by omega), Bool.true_and]; rfl
  rw [e2, h.size hv]
  omega
theorem GmLog.take {n : Net} {v i x y : Nat} {m : List Int} {set : Nat} (hg : Good n) (h : GmLog n v m set) (h14 : n.ends.length ≤ 14) (hv : v < n.ends.length) (hf : set.testBit v = true) (hne : sizeG n.ends (clrN set v) ≠ sizeG n.ends set) (hi : i < n.ends[v].length) (hee : n.ends[v][i] = ((x : Int), (y : Int)))
    (hit : gmP n.ends (clrN set v) (sizeG n.ends set : Nat) n.ends[v][i] = true) (hb : ∀ u (hu : u < i), gmP n.ends (clrN set v) (sizeG n.ends set : Nat) (n.ends[v][u]'(by omega)) = false) : GmLog n (v + 1) ((m.set v (i : Int)).set x (y : Int)) (clrN (clrN set v) x) := by
  have hbv := h.bits v
  rw [hf, decide_eq_true (Nat.le_refl _), Bool.true_and] at hbv
  have ev : n.ends.length - v = (n.ends.length - (v + 1)) + 1 := by omega
  have ek : n.ends.length - (n.ends.length - (v + 1) + 1) = v := by omega
  have hsz : set < 18446744073709551616 := Nat.lt_of_lt_of_le h.lt (Nat.le_trans (Nat.pow_le_pow_right (by decide) h14) (by decide))
  have hrz : clrN set v < 18446744073709551616 := Nat.lt_of_le_of_lt (clrN_le _ _) hsz
  have hrow := rowG_get hv
  have hgd : ∀ u (hu : u < n.ends[v].length), (rowG n.ends v).getD u (0, 0) = n.ends[v][u] := fun u hu => by rw [hrow, List.getD_eq_getElem?_getD, List.getElem?_eq_getElem hu]; rfl
  have h1 := (h.hit h14 hv _).1 hit
  obtain ⟨x', y', hxy, hx, hbk⟩ := hg.far hv hi
  obtain ⟨_, hy, _⟩ := port_some hbk
  rw [hee] at hxy h1
  have ex : x = x' := by have := congrArg Prod.fst hxy; simp at this; omega
  have ey : y = y' := by have := congrArg Prod.snd hxy; simp at this; omega
  subst ex ey
  have hy6 := hg.deg hx
  have hi6 := hg.deg hv
  have hml := h.len
  have hxv : v < x := by
    have := h1.1
    unfold mayE at this
    simp at this
    exact this.1
  have htk : (m.set v (i : Int)).set x (y : Int) = takeP m v i n.ends[v][i] := by rw [hee]; rfl
  refine ⟨by simp [hml], Nat.lt_of_le_of_lt (Nat.le_trans (clrN_le _ _) (clrN_le _ _)) h.lt, fun u => ?_, ?_, ?_⟩
  · rw [clrN_bit hrz (by omega), h.rest h14 hv]
    by_cases hu : v + 1 ≤ u
    · rw [decide_eq_true hu, Bool.true_and, Bool.true_and, htk, hee]
      rw [freeN_take (by omega) (by simpa using (show x < m.length by omega)) (by simp) (by omega)]
      rfl
    · rw [decide_eq_false hu]; rfl
  · exact putE_all (q := ((v : Int), (i : Int), (x : Int), (y : Int))) h.i64 ⟨by show (-9223372036854775808 : Int) ≤ (i : Nat); omega, by show ((i : Nat) : Int) ≤ _; omega⟩ ⟨by show (-9223372036854775808 : Int) ≤ (y : Nat); omega, by show ((y : Nat) : Int) ≤ _; omega⟩
  · rw [← h.best, ev, htk]
    have hgi := hgd i hi
    have := bst_take (E := n.ends) (k := n.ends.length) (j := n.ends.length - (v + 1)) (i := i) (m := m) (EndsIn.of_good hg) (by omega) h.len (by rw [ek]; exact hbv.symm)
    rw [ek, hgi] at this
    rw [h.size hv, h.size' h14 hv, ev] at hne
    rw [ev] at h1
    rw [hee] at this ⊢
    refine (this hne (by rw [hrow]; exact hi) h1.1 h1.2 fun u hu => ?_).symm
    rw [hgd u (by omega)]
    have h2 := hb u hu
    have h3 := h.hit h14 hv (n.ends[v][u]'(by omega))
    rw [ev, h2] at h3
    intro h4
    exact absurd (h3.2 h4) (by simp)
theorem GmLog.found {n : Net} {v : Nat} {m : List Int} {set : Nat} (h : GmLog n v m set) (h14 : n.ends.length ≤ 14) (hv : v < n.ends.length) (hf : set.testBit v = true) (hne : sizeG n.ends (clrN set v) ≠ sizeG n.ends set) {x : Int}
    (hx : Found n.ends[v] (gmP n.ends (clrN set v) (sizeG n.ends set : Nat)) x) : ∃ i : Nat, x = i ∧ ∃ hi : i < n.ends[v].length, gmP n.ends (clrN set v) (sizeG n.ends set : Nat) n.ends[v][i] = true ∧ ∀ u (hu : u < i), gmP n.ends (clrN set v) (sizeG n.ends set : Nat) (n.ends[v][u]'(by omega)) = false := by
  have hbv := h.bits v
  rw [hf, decide_eq_true (Nat.le_refl _), Bool.true_and] at hbv
  have ev : n.ends.length - v = (n.ends.length - (v + 1)) + 1 := by omega
  have ek : n.ends.length - (n.ends.length - (v + 1) + 1) = v := by omega
  unfold Found at hx
  cases hfi : n.ends[v].findIdx? (gmP n.ends (clrN set v) (sizeG n.ends set : Nat)) with
  | some i =>
    rw [hfi] at hx
    obtain ⟨hi, h1, h2⟩ := List.findIdx?_eq_some_iff_getElem.1 hfi
    exact ⟨i, hx, hi, h1, fun u hu => by simpa using h2 u hu⟩
  | none =>
    exfalso
    have hno := List.findIdx?_eq_none_iff.1 hfi
    have hne' := hne
    rw [h.size hv, h.size' h14 hv, ev] at hne'
    obtain ⟨i, hi, hp, hn⟩ := opt_hit (E := n.ends) (k := n.ends.length) (j := n.ends.length - (v + 1)) (fr := freeN m) (by rw [ek]; exact hbv.symm) hne'
    rw [ek] at hi hp hn
    rw [rowG_get hv] at hi
    have hgd : (rowG n.ends v).getD i (0, 0) = n.ends[v][i] := by rw [rowG_get hv, List.getD_eq_getElem?_getD, List.getElem?_eq_getElem hi]; rfl
    rw [hgd] at hp hn
    have h3 := (h.hit h14 hv n.ends[v][i]).2 ⟨hp, by rw [ev]; exact hn⟩
    rw [hno _ (List.getElem_mem hi)] at h3
    cases h3

end Go.Proofs.YtaeledhbkdakcaaDoor
end

section
/- GreatestMatching, the program: the walk. -/
namespace Go.Proofs.YtaeledhbkdakcaaDoor
open Go.GX Go.RowKit
set_option maxRecDepth 100000

theorem GreatestMatching_ok {w : World} (g : GT w) {a b c : Sl} {n : Net} (h : RNet w a b c n) (hn : Small n) :
    Calls Tryd.prog F.i_GreatestMatching #[.agg #[a.v, b.v, c.v]] w (Ret [.at .sl, .at .bool] fun (r : Sl) (y : Bool) w' => Ext w w' ∧ ∃ m, OutL w.heap.size w' r m ∧ AnsG (GmAsked n) (gmOf n) [] m y) := by
  refine C_i_GreatestMatching ?_
  unfold V_i_GreatestMatching
  refine NEW_intro fun p w1 hp hs hE hb1 => LD_box3 hb1 ?_
  replace h := h.ext hE
  replace g := g.ext hE
  refine call (isNetwork_ok h hn.2.2.1) ?_
  rintro x w2 ⟨hx, hE2⟩
  replace h := h.ext hE2
  replace hb1 := hb1.ext hE2
  replace hE := hE.ext hE2
  replace g := g.ext hE2
  refine cond_not (fun hf => ⟨hE, [], OutL.nil _ _, .no fun hg => ?_⟩) (fun ht => ?_)
  · rw [hx.2 hg.1] at hf; cases hf
  have hg := hx.1 ht
  refine LD_bs0 hb1 ?_
  rw [h.1.len]
  refine cond_dec (fun hgt => ⟨hE, [], OutL.nil _ _, .no fun hg => ?_⟩) (fun hle => ?_)
  · have := hg.2; omega
  have h14 : n.ends.length ≤ 14 := by omega
  unfold V_i_GreatestMatching_k1
  refine LD_box3 hb1 ?_
  have hNL := NetL.of h
  have hgl := g.lt
  have hpl : p.block < w2.heap.size := hb1.lt
  have hwL := hE.size_le
  generalize hL : w2.heap.size = L at hNL hgl hpl
  refine RUN_newMemo fun mb w4 hmb hE4 hM4 => ?_
  refine NEW_ST (by intro v hv; simp at hv; rcases hv with rfl | rfl | rfl | rfl <;> rfl) rfl fun p4 w6 hp4 hE6 hb4 => ?_
  have hM6 := (hM4 (fun s v => v = sizeG n.ends s)).ext hE6
  have hE26 := hE4.trans hE6
  have hb1' := hb1.ext hE26
  refine LD_box3 hb1' ?_
  refine call (noMatching_ok (h.ext hE26) (by omega)) ?_
  rintro s w7 ⟨hE7, hO7⟩
  have hE27 := hE26.trans hE7
  refine LD_bs0 (hb1.ext hE27) ?_
  rw [h.1.len]
  refine ⟨Int.natCast_nonneg _, ?_⟩
  have hk64 : n.ends.length < 64 := by omega
  have hpow : 2 ^ n.ends.length ≤ 2 ^ 14 := Nat.pow_le_pow_right (by decide) h14
  have hpos : 0 < 2 ^ n.ends.length := Nat.pow_pos (by decide)
  rw [shlU hk64, show (((2 ^ n.ends.length : Nat) : Int) - 1) = ((2 ^ n.ends.length - 1 : Nat) : Int) by omega, wrapU (by omega)]
  refine NEW_ST (by intro v hv; simp at hv; subst hv; rfl) rfl fun p6 w9 hp6 hE9 hb6 => ?_
  have hE79 := hE9
  have hE29 := hE27.trans hE9
  refine LD_bs0 (hb1.ext hE29) ?_
  rw [h.1.len]
  have hl6 : p4.block < w6.heap.size := hb4.lt
  have hl4 : mb < w4.heap.size := (hM4 fun _ _ => True).lt
  have hl67 := hE7.size_le
  have hsep : GmSep p4 p6 s mb w6.heap.size L := ⟨by omega, by omega, hl6, by omega, fun q hq => by have := hO7.blk q hq; exact ⟨this.1, by omega⟩⟩
  have hsL : L ≤ w6.heap.size := by have := hsep.a; omega
  have hI0 : GmI n a b c s mb p4 p6 w6.heap.size w9 0 w9 := by
    refine ⟨List.replicate n.ends.length (-1), 2 ^ n.ends.length - 1, ⟨hO7.ext hE9, hb6, (hb4.ext hE7).ext hE9, (hM6.ext hE7).ext hE9, Chg.refl _ _⟩, ⟨by simp, by omega, fun u => ?_, fun z hz => by rw [List.eq_of_mem_replicate hz]; exact ⟨by decide, by decide⟩, rfl⟩⟩
    rw [Nat.testBit_two_pow_sub_one, decide_eq_true (Nat.zero_le u), Bool.true_and]
    unfold freeN
    by_cases hu : u < n.ends.length
    · rw [List.length_replicate, at0_get (by simpa using hu)]
      simp [hu]
    · rw [List.length_replicate, decide_eq_false hu]; rfl
  have hNB : ∀ {w'}, Chg w9 w' (gmD p6 s mb) → NetL w' L a b c n := fun hC => (hNL.chg (.of_ext hE29) (D := fun _ => False) (fun _ h => h.elim)).chg hC hsep.low
  have hGB : ∀ {w'}, Chg w9 w' (gmD p6 s mb) → GTB w' mb := fun hC => ⟨GT.chg (g.ext hE29) hgl hC hsep.low, by have := hsep.a; omega⟩
  have hk5 : ∀ (v : Nat) (w10 w' : World), v < n.ends.length → GmI n a b c s mb p4 p6 w6.heap.size w9 (v + 1) w' → V_i_GreatestMatching_k5 (IN n.ends.length (GmI n a b c s mb p4 p6 w6.heap.size w9)) (MN n.ends.length) (v : Int) w10 w' := by
    intro v w10 w' hv hI
    unfold V_i_GreatestMatching_k5
    exact IN_next (by omega) hv hI
  refine ⟨IN n.ends.length (GmI n a b c s mb p4 p6 w6.heap.size w9), MN n.ends.length, IN_zero hI0, ?_⟩
  rintro _ w10 ⟨v, rfl, hv, m, set, hA, hG⟩
  intros
  refine cond_dec (fun hlt => ?_) (fun hge => ?_)
  · have hv' : v < n.ends.length := by omega
    have hsz : set < 18446744073709551616 := Nat.lt_of_lt_of_le hG.lt (Nat.le_trans (Nat.pow_le_pow_right (by decide) h14) (by decide))
    have hv64 : v < 64 := by omega
    have hrz : clrN set v < 18446744073709551616 := Nat.lt_of_le_of_lt (clrN_le _ _) hsz
    have hN10 := hNB hA.chg
    refine hN10.e.ixL hv' fun q row hrow hc => LD_sl hc ?_
    refine LD_u64 (hA.b6.cell (i := 0) rfl) ⟨Int.natCast_nonneg _, ?_⟩
    rw [bitU hsz hv64]
    by_cases hf : set.testBit v = true
    · rw [if_pos hf]
      refine cond_f rfl ?_
      refine LD_box3m hA.b4 (LD_u64 (hA.b6.cell (i := 0) rfl) ?_)
      refine call (size_ok hg h14 set hG.lt (hGB hA.chg) (hN10.netB hsep.a) hA.memo) ?_
      rintro _ w11 ⟨rfl, hC11, hM11⟩
      have hA11 := hA.size hsep hC11 hM11
      refine NEW_ST (by intro v hv; simp at hv; subst hv; rfl) rfl fun p9 w13 hp9 hE13 hb9 => ?_
      have hA13 := hA11.ext hE13
      have hp9lt : w9.heap.size ≤ p9.block := by have := hA11.chg.size; omega
      have hp6lt := hb6.lt
      have hs1 := hsep.a
      have hs2 := hsep.b
      have hs3 := hsep.c
      have hs4 := hsep.d
      have hs5 := hsep.e
      intro w14 hE14 _
      have hA14 := hA13.ext hE14
      have hb14 := hb9.ext hE14
      refine ⟨fun _ => False, fun hf => hf, LD_u64 (hA14.b6.cell (i := 0) rfl) ⟨Chg.refl _ _, Int.natCast_nonneg _, Chg.refl _ _, ?_⟩⟩
      rw [clrU hsz hv64]
      refine ST_boxM (i := 0) hA14.b6 (by simp) rfl fun w15 hC15 _ hb15 => ?_
      have hA15 := hA14.set6 hsep hC15 hb15
      have hb9' := hb14.chg hC15 (by omega)
      intro w16 hE16 _
      have hA16 := hA15.ext hE16
      have hb16 := hb9'.ext hE16
      have hN16 := hNB hA16.chg
      have hc6 : w16.cell? p6 = some (.int .u64 ((clrN set v : Nat) : Int)) := hA16.b6.cell (i := 0) rfl
      have hc9 : w16.cell? p9 = some (.int .i64 ((sizeG n.ends set : Nat) : Int)) := hb16.cell (i := 0) rfl
      have h42 := hA16.b4
      have hcall := size_ok hg h14 (clrN set v) (Nat.lt_of_le_of_lt (clrN_le _ _) hG.lt) (hGB hA16.chg) (hN16.netB hsep.a) hA16.memo
      have hfin : ∀ w17, Chg w16 w17 (fun q => q = mb) → MemoR w17 mb (fun s v => v = sizeG n.ends s) → cond (((sizeG n.ends (clrN set v) : Nat) : Int) == ((sizeG n.ends set : Nat) : Int)) (V_i_GreatestMatching_k5 (IN n.ends.length (GmI n a b c s mb p4 p6 w6.heap.size w9)) (MN n.ends.length) (v : Int) w10 w17) (V_i_GreatestMatching_k7 (IN n.ends.length (GmI n a b c s mb p4 p6 w6.heap.size w9)) (MN n.ends.length) w10 p4 s p6 (v : Int) row p9 w17) := by
        intro w17 hC17 hM17
        have hA17 := hA16.size hsep hC17 hM17
        refine cond_eq (fun he => hk5 v w10 w17 hv' ⟨m, clrN set v, hA17, hG.free hg h14 hv' hf (by omega)⟩) (fun hne => ?_)
        have hne' : sizeG n.ends (clrN set v) ≠ sizeG n.ends set := by omega
        unfold V_i_GreatestMatching_k7
        have hb17 := hb16.chg hC17 (by omega)
        have hC1017 : Chg w10 w17 (gmD p6 s mb) := (((((hC11.mono fun q e => .inl e).trans (.of_ext hE13)).trans (.of_ext hE14)).trans (hC15.mono fun q e => .inr (.inl e))).trans (.of_ext hE16)).trans (hC17.mono fun q e => .inl e)
        have hrow17 : ∀ {w'}, Chg w17 w' (fun q => q = mb) → R w' row n.ends[v] := fun hC =>
          (hrow.chg (hC1017.trans (hC.mono fun q e => .inl e)) fun q h1 _ h2 => by have := hsep.low q h2; omega).any
        refine call (indexFuncM_ok (J := fun w' => Chg w17 w' (fun q => q = mb) ∧ MemoR w' mb (fun s v => v = sizeG n.ends s)) (p := gmP n.ends (clrN set v) (sizeG n.ends set : Nat)) ⟨Chg.refl _ _, hM17⟩ (fun w' hJ => hrow17 hJ.1) fun i hi w' hJ => ?_) ?_
        · obtain ⟨x, y, hxy, hx, _⟩ := hg.far hv' hi
          have hA' := hA17.size hsep hJ.1 hJ.2
          rw [hxy]
          refine CALLV_mk (by kernel_rfl) ?_
          refine call (gmHit_ok hg h14 hx (Nat.lt_of_le_of_lt (clrN_le set v) hG.lt) (hGB hA'.chg) ((hNB hA'.chg).netB hsep.a) hA'.memo hA'.b6 hA'.b4 (hb17.chg hJ.1 (by omega)) (by omega)) ?_
          rintro r w'' ⟨hr, hC, hM⟩
          exact ⟨hr, hJ.1.trans hC, hM⟩
        rintro x58 w26 ⟨hfd, hC26, hM26⟩
        obtain ⟨i, rfl, hi, hit, hfirst⟩ := hG.found h14 hv' hf hne' hfd
        obtain ⟨x, y, hxy, hx, hbk⟩ := hg.far hv' hi
        have hA26 := hA17.size hsep hC26 hM26
        refine (hrow17 hC26).ixE hi fun q _ _ hc0 hc1 => ?_
        rw [hxy] at hc0 hc1
        refine LD_int2 hc0 hc1 ?_
        refine NEW_ST (one2 _ _) rfl fun p11 w28 hp11 hE28 hb11 => ?_
        have hA28 := hA26.ext hE28
        have hp11lt : w9.heap.size ≤ p11.block := by have := hA26.chg.size; omega
        intro w29 hE29' _
        have hA29 := hA28.ext hE29'
        have hb29 := hb11.ext hE29'
        have hml := hG.len
        have hos : ∀ k, oB s k → k < w9.heap.size := fun k hk => by have := hs5 k hk; omega
        have hno : ∀ k, ¬ oB s (p11.add k).block := fun k hk => by rw [add_block] at hk; have := hos _ hk; omega
        refine ⟨oB s, hno 0, LD_bi0 hb29 ⟨hno 1, LD_bi1 hb29 ?_⟩⟩
        refine IX_own hA29.own (by omega) rfl fun q hq => ⟨Chg.refl _ _, ?_⟩
        refine ST_own hA29.own (by omega) hq (i : Int) rfl fun w30 hO30 hs30 => ⟨.of_step hs30 fun k hk => hk, ?_⟩
        have hA30 := hA29.setm hsep hs30 hO30
        refine IX_own hO30 (by simp; omega) rfl fun q hq => ?_
        refine ST_own hO30 (by simp; omega) hq (y : Int) rfl fun w31 hO31 hs31 => ?_
        have hA31 := hA30.setm hsep hs31 hO31
        have hb31 : Box w31 p11 T.t_i_End [.int .i64 (x : Int), .int .i64 (y : Int)] := (hb29.chg (.of_step hs30 fun k hk => hk) (hno 0)).chg (.of_step hs31 fun k hk => hk) (hno 0)
        intro w32 hE32 _
        have hA32 := hA31.ext hE32
        have hb32 := hb31.ext hE32
        refine ⟨fun _ => False, fun hf => hf, LD_u64 (hA32.b6.cell (i := 0) rfl) ⟨Chg.refl _ _, LD_bi0 hb32 ⟨Chg.refl _ _, Int.natCast_nonneg _, Chg.refl _ _, ?_⟩⟩⟩
        rw [clrU hrz (by omega)]
        refine ST_boxM (i := 0) hA32.b6 (by simp) rfl fun w33 hC33 _ hb33 => ?_
        refine hk5 v w10 w33 hv' ⟨_, _, hA32.set6 hsep hC33 hb33, hG.take hg h14 hv' hf hne' hi hxy hit hfirst⟩
      have hc9' : ∀ {w'}, Chg w16 w' (fun q => q = mb) → w'.cell? p9 = some (.int .i64 ((sizeG n.ends set : Nat) : Int)) := fun hC => (hb16.chg hC (by omega)).cell (i := 0) rfl
      repeat' (first
        | (refine LD_u64 hc6 ?_)
        | (refine LD_int hc9 ?_)
        | (refine LD_box3m h42 ?_)
        | (refine call hcall ?_; rintro _ w' ⟨rfl, hC, hM'⟩; first | exact hfin _ hC hM' | (refine LD_int (hc9' hC) ?_; exact hfin _ hC hM'))
        | (refine And.intro ?_ ?_))
    · have hf' : set.testBit v = false := by simpa using hf
      rw [if_neg hf]
      exact cond_t rfl (hk5 v w10 w10 hv' ⟨m, set, hA, hG.skip hv' hf'⟩)
  · have : v = n.ends.length := by omega
    subst this
    have hbest := hG.best
    rw [Nat.sub_self] at hbest
    have hbest' : m = gmOf n := hbest
    have hml := hG.len
    refine ⟨hA.chg.ext0 (hE.trans hE29) fun k hk => by have := hsep.low k hk; omega, m, ⟨hA.own.low (by omega), hG.i64, by omega⟩, ?_⟩
    rw [hbest']
    exact .yes ⟨hg, h14⟩

end Go.Proofs.YtaeledhbkdakcaaDoor
end

section
/- The walk of the law FnExactGreatestMatching. -/
namespace Go.Proofs.YtaeledhbkdakcaaDoor
open Go.GX Go.RowKit
set_option maxRecDepth 100000
set_option maxHeartbeats 800000

theorem fnExactGreatestMatching_ok {w : World} (g : GT w) {a0 b0 c0 : Sl} {n0 : Net} (h0 : RNet w a0 b0 c0 n0) :
    Calls Tryd.prog F.l_FnExactGreatestMatching #[.agg #[a0.v, b0.v, c0.v]] w (Ret [.at .bool] fun (x : Bool) w' => x = true ∧ Ext w w') := by
  refine C_l_FnExactGreatestMatching ?_
  unfold V_l_FnExactGreatestMatching
  refine NEW_intro fun p0 u0 hp0 hs0 hA0 hb0 => ?_
  have hE := hA0
  replace h0 := h0.ext hA0
  refine LD_box3 hb0 ?_
  refine call (szNetwork_le h0) ?_
  rintro z0 x0 ⟨hz0, hB0⟩
  replace hE := hE.ext hB0
  replace h0 := h0.ext hB0
  replace hb0 := hb0.ext hB0
  refine cond_dec (fun _ => ⟨rfl, hE⟩) (fun hzl0 => ?_)
  have hS0 := (hz0 (by omega)).1
  have hzz0 := (hz0 (by omega)).2
  refine LD_box3 hb0 ?_
  refine call (toNetwork_ok h0 hS0) ?_
  rintro xs0 ys0 zs0 ws0 ⟨hEs0, hNs0⟩
  replace hE := hE.ext hEs0
  replace h0 := h0.ext hEs0
  replace hb0 := hb0.ext hEs0
  refine call (sGreatestMatching_ok hNs0) ?_
  rintro r10 r11 wA ⟨hCA, r1L0, hL10, hA1⟩
  replace hE := hE.ext hCA
  replace h0 := h0.ext hCA
  replace hb0 := hb0.ext hCA
  replace hNs0 := hNs0.ext hCA
  have gA := g.ext hE
  have hX := Ext.refl wA
  refine LD_box3 (hb0.ext hX) ?_
  have hlo0 := hX.size_le
  refine call (toNetwork_own (h0.ext hX) hS0) ?_
  rintro xi0 yi0 zi0 wi0 ⟨hEi0, hON0⟩
  have hls0 := hEi0.size_le
  replace hX := hX.ext hEi0
  have hM0 := hON0.mnet hS0
  have hNi0 := hON0.net h0
  have hH0 := Ext.refl wi0
  refine NEW_ST (one3 _ _ _) rfl fun qi0 vi0 hqi0 hFi0 hc0 => ?_
  replace hX := hX.ext hFi0
  replace hM0 := hM0.ext hFi0
  replace hNi0 := hNi0.ext hFi0
  replace hH0 := hH0.ext hFi0
  refine LD_box3 hc0 ?_
  have hhi0 := hH0.size_le
  have hXD := hX.size_le
  refine call (GreatestMatching_ok (gA.ext hX) hNi0 hS0) ?_
  rintro r20 r21 wE ⟨hCE, r2L0, hG20, hA2⟩
  replace hX := hX.ext hCE
  replace hM0 := hM0.ext hCE
  replace hNi0 := hNi0.ext hCE
  replace hH0 := hH0.ext hCE
  replace hc0 := hc0.ext hCE
  obtain ⟨rfl, rfl⟩ := hA1.eq hA2
  refine call (eqIntS_ok hG20.rep (hL10.ext hX)) ?_
  rintro _ we1 ⟨rfl, hK⟩
  replace hX := hX.ext hK
  replace hM0 := hM0.ext hK
  replace hNi0 := hNi0.ext hK
  replace hH0 := hH0.ext hK
  replace hc0 := hc0.ext hK
  replace hG20 := hG20.ext hK
  refine cond_f (by simp) ?_
  refine cond_f (by simp) ?_
  unfold V_l_FnExactGreatestMatching_k2
  intro m0 hG0 _
  replace hX := hX.ext hG0
  replace hM0 := hM0.ext hG0
  replace hNi0 := hNi0.ext hG0
  replace hH0 := hH0.ext hG0
  replace hc0 := hc0.ext hG0
  replace hG20 := hG20.ext hG0
  refine LD_box3 hc0 (LD_box3 (hb0.ext hX) ?_)
  refine ⟨Ext.refl _, call (toNetwork_ok (h0.ext hX) hS0) ?_⟩
  rintro xe0 ye0 ze0 we0' ⟨hHe0, hNe0⟩
  replace hX := hX.ext hHe0
  replace hM0 := hM0.ext hHe0
  replace hNi0 := hNi0.ext hHe0
  replace hH0 := hH0.ext hHe0
  replace hc0 := hc0.ext hHe0
  replace hG20 := hG20.ext hHe0
  refine ⟨hHe0, call (eqNetwork_ok hNi0 hNe0) ?_⟩
  rintro _ wf0 ⟨rfl, hK0⟩
  replace hX := hX.ext hK0
  replace hM0 := hM0.ext hK0
  replace hNi0 := hNi0.ext hK0
  replace hH0 := hH0.ext hK0
  replace hc0 := hc0.ext hK0
  replace hG20 := hG20.ext hK0
  refine ⟨hHe0.trans hK0, cond_f (by simp) ?_⟩
  refine LD_box3 hc0 ?_
  refine call (markNetwork_ok hM0 hH0.size_le) ?_
  rintro k0 wm0 ⟨hk0, hkk0, hSh, hCh⟩
  have hzk0 := hCh.size
  replace hX := hCh.extR hX (by omega)
  replace hG20 := hG20.chgR hCh (by omega)
  refine cond_df (by omega) ?_
  refine call (eqIntS_ok hG20.rep (hL10.ext hX)) ?_
  rintro _ we2 ⟨rfl, hK⟩
  replace hX := hX.ext hK
  replace hG20 := hG20.ext hK
  refine cond_f (by simp) ?_
  refine cond_f (by simp) ?_
  unfold V_l_FnExactGreatestMatching_k5
  have hl0 := hG20.small
  refine call (markIntS_out hG20 1 (by omega) (by omega)) ?_
  rintro mk0 wg0 ⟨hmk0, hMk0, hSt⟩
  replace hX := hSt.extB hX (by omega)
  refine call (heldIntS_ok 1 hMk0 (by omega) (by omega) hl0) ?_
  rintro qh _ ⟨hqh, rfl⟩
  obtain rfl : mk0 = qh := (hqh.trans hmk0.symm).symm
  refine cond_df (by omega) ?_
  refine cond_f (by simp) ?_
  refine LD_box3 (hb0.ext hX) ?_
  refine call (toNetwork_ok (h0.ext hX) hS0) ?_
  rintro xj0 yj0 zj0 wj0 ⟨hEj0, hNj0⟩
  replace hX := hX.ext hEj0
  replace hMk0 := hMk0.ext hEj0
  refine call (GreatestMatching_ok (gA.ext hX) hNj0 hS0) ?_
  rintro r30 r31 wH ⟨hCH, r3L0, hG30, hA3⟩
  replace hX := hX.ext hCH
  replace hMk0 := hMk0.ext hCH
  replace hNj0 := hNj0.ext hCH
  obtain ⟨rfl, rfl⟩ := hA1.eq hA3
  refine call (eqIntS_ok hG30.rep (hL10.ext hX)) ?_
  rintro _ we3 ⟨rfl, hK⟩
  replace hX := hX.ext hK
  replace hMk0 := hMk0.ext hK
  replace hNj0 := hNj0.ext hK
  replace hG30 := hG30.ext hK
  refine cond_f (by simp) ?_
  refine cond_f (by simp) ?_
  refine call (heldIntS_ok 1 hMk0 (by omega) (by omega) hl0) ?_
  rintro qh _ ⟨hqh, rfl⟩
  obtain rfl : mk0 = qh := (hqh.trans hmk0.symm).symm
  refine cond_df (by omega) ?_
  refine cond_f (by simp) ?_
  exact ⟨rfl, hE.trans hX⟩

end Go.Proofs.YtaeledhbkdakcaaDoor
end

section
/- Arguments that come in, read as data: from the statements' own reading of memory to the rules' reading. No program is named here. -/
namespace Go.GX
open Go.RowKit Go.WideShapes Go.ChangeShapes Go.ChangeAt Go.Deep

/-- Whatever the statements read at type t is data of α in memory. -/
def Reads (P : Program) (t : TypeId) (α : Type) [Rep α] : Prop :=
  ∀ {H : Type} {enc : TypeId × Value → H} {w : World} {base : Nat} {spare : Nat → Bool} {held : Bool} {fuel : Nat} {cs : List Value} {x : DataW H × List MemPlace},
    DataW.trod enc P w base spare held fuel t cs = some x → ∃ a : α, Rep.rep (fun _ => True) w cs a

theorem Reads.int {P : Program} {t : TypeId} (ht : P.underlying t = some (.int .i64)) : Reads P t Int := fun h => by
  obtain ⟨n, rfl, _, hn⟩ := DataW.trod_int ht h
  exact ⟨n, rfl, bounds_i64 hn⟩

theorem Reads.slice {P : Program} {t e : TypeId} {α : Type} [RepP α] (ht : P.underlying t = some (.slice e)) (hc : P.cellsOf e = Rep.sz α) (he : Reads P e α) : Reads P t (List α) := by
  intro H enc w base spare held fuel cs x h
  rcases open_slice ht h with ⟨rfl, _⟩ | ⟨a, len, cap, m, n, D, Pl, rfl, hb, hl, hm, hmm, _, hx⟩
  · exact ⟨[], ⟨none, 0, 0⟩, rfl, rfl, ⟨Nat.le_refl _, Nat.zero_le _⟩, fun i x hx => by simp at hx⟩
  · have hlm : len ≤ m := by rw [hmm]; split <;> omega
    have hall : ∀ i : Fin len, ∃ z : α, ∃ cs', Rep.rep (fun _ => True) w cs' z ∧ ∀ j v, cs'[j]? = some v → w.cell? (a.add (i.1 * Rep.sz α + j)) = some v := fun i => by
      obtain ⟨cs', h1, h2⟩ := hx i.1 (by omega)
      obtain ⟨z, hz⟩ := he h2
      refine ⟨z, cs', hz, fun j v hj => ?_⟩
      obtain ⟨_, hlen, hcell⟩ := World.cells?_some h1
      have hj' : j < cs'.length := (List.getElem?_eq_some_iff.1 hj).1
      have := hcell j (by omega)
      rw [hj, add_add, hc] at this
      exact this
    refine ⟨List.ofFn fun i => (hall i).choose, ⟨some a, len, cap⟩, rfl, by simp, ⟨hl, by simpa [maxLen] using hm⟩, fun i x hx => ?_⟩
    rw [List.getElem?_ofFn] at hx
    split at hx
    · rename_i hi
      simp at hx
      subst hx
      obtain ⟨cs', h1, h2⟩ := (hall ⟨i, hi⟩).choose_spec
      exact ⟨a, cs', rfl, trivial, h1, h2⟩
    · cases hx

/-- A struct type whose fields have these types, each one cell, one after the other. -/
def fieldsB (P : Program) (t : TypeId) (ts : List TypeId) : Bool :=
  (match P.underlying t with | some (.struct fs) => fs.toList.map (fun f => (f.type, f.offset)) == ts.zipIdx | _ => false) && ts.all (fun u => P.cellsOf u == 1) && P.cellsOf t == ts.length

theorem fieldsB_struct {P : Program} {t : TypeId} {ts : List TypeId} (h : fieldsB P t ts = true) :
    ∃ fs, P.underlying t = some (.struct fs) ∧ fs.toList.map (fun f => (f.type, f.offset)) = ts.zipIdx ∧ (∀ u ∈ ts, P.cellsOf u = 1) ∧ P.cellsOf t = ts.length := by
  simp only [fieldsB, Bool.and_eq_true, List.all_eq_true, beq_iff_eq] at h
  obtain ⟨⟨h1, h2⟩, h3⟩ := h
  cases hu : P.underlying t with
  | none => rw [hu] at h1; cases h1
  | some u =>
    rw [hu] at h1
    cases u with
    | struct fs => exact ⟨fs, rfl, by simpa using h1, h2, h3⟩
    | _ => cases h1

theorem trod_fields {P : Program} {t : TypeId} {ts : List TypeId} (h : fieldsB P t ts = true) {H : Type} {enc : TypeId × Value → H} {w : World} {base : Nat} {spare : Nat → Bool} {held : Bool} {fuel : Nat} {cs : List Value} {x : DataW H × List MemPlace}
    (hx : DataW.trod enc P w base spare held fuel t cs = some x) : cs.length = ts.length ∧ ∀ (i : Nat) (u : TypeId), ts[i]? = some u → ∃ v n y, cs[i]? = some v ∧ DataW.trod enc P w base spare held n u [v] = some y := by
  obtain ⟨fs, hu, hm, h1, hc⟩ := fieldsB_struct h
  obtain ⟨xs, n, _, _, hl, hlen, hf⟩ := DataW.trod_struct hu hx
  refine ⟨hl.trans hc, fun i u hi => ?_⟩
  have hi' : i < ts.length := (List.getElem?_eq_some_iff.1 hi).1
  have hfl : fs.size = ts.length := by have := congrArg List.length hm; simpa using this
  have hg : (fs.toList.map (fun f => (f.type, f.offset)))[i]? = some (u, i) := by rw [hm]; simp [List.getElem?_zipIdx, hi]
  have hif : i < fs.size := by omega
  have hfi : fs[i]? = some fs[i] := by simp [hif]
  rw [List.getElem?_map] at hg
  simp [hif] at hg
  have := hf i fs[i] hfi
  have hci : i < cs.length := by omega
  rw [hg.1, hg.2, h1 u (List.mem_of_getElem? hi), List.drop_eq_getElem_cons hci, List.take_succ_cons, List.take_zero] at this
  refine ⟨cs[i], n, xs[i]'(by omega), by simp [hci], ?_⟩
  rw [this]; simp

theorem Reads.pair {P : Program} {t u0 u1 : TypeId} (hf : fieldsB P t [u0, u1] = true) (h0 : Reads P u0 Int) (h1 : Reads P u1 Int) : Reads P t (Int × Int) := fun h => by
  obtain ⟨hl, hx⟩ := trod_fields hf h
  obtain ⟨v0, n0, y0, hv0, ht0⟩ := hx 0 u0 rfl
  obtain ⟨v1, n1, y1, hv1, ht1⟩ := hx 1 u1 rfl
  obtain ⟨a, ha, hA⟩ := h0 ht0
  obtain ⟨b, hb, hB⟩ := h1 ht1
  simp only [List.cons.injEq, and_true] at ha hb
  subst ha; subst hb
  refine ⟨(a, b), ?_, hA, hB⟩
  apply List.ext_getElem?
  intro i
  match i with
  | 0 => simpa using hv0
  | 1 => simpa using hv1
  | i + 2 => simp at hl; simp [hl]

/-- An argument that is a struct of three slices. -/
theorem open_three {P : Program} {t u0 u1 u2 : TypeId} {α β γ : Type} [RepP α] [RepP β] [RepP γ] (hf : fieldsB P t [u0, u1, u2] = true) (h0 : Reads P u0 (List α)) (h1 : Reads P u1 (List β)) (h2 : Reads P u2 (List γ))
    {H : Type} {enc : TypeId × Value → H} {w : World} {base b0 : Nat} {spare : Nat → Bool} {held : Bool} {r : Go.Reach} {v : Value} {d : DataW H} {p : List MemPlace}
    (hv : Value.okWide P w r b0 t v) (h : DataW.Trod enc P w base spare held t v d p) : ∃ (a b c : Sl) (x : List α) (y : List β) (z : List γ), v = .agg #[a.v, b.v, c.v] ∧ R w a x ∧ R w b y ∧ R w c z := by
  obtain ⟨fs, hu, _⟩ := fieldsB_struct hf
  obtain ⟨cs, rfl, _⟩ := okWide_struct hu hv
  obtain ⟨fuel, hx⟩ := h
  obtain ⟨hl, hx⟩ := trod_fields hf hx
  obtain ⟨v0, n0, y0, hv0, ht0⟩ := hx 0 u0 rfl
  obtain ⟨v1, n1, y1, hv1, ht1⟩ := hx 1 u1 rfl
  obtain ⟨v2, n2, y2, hv2, ht2⟩ := hx 2 u2 rfl
  obtain ⟨x, a, ha, hA⟩ := h0 ht0
  obtain ⟨y, b, hb, hB⟩ := h1 ht1
  obtain ⟨z, c, hc, hC⟩ := h2 ht2
  simp only [List.cons.injEq, and_true] at ha hb hc
  subst ha; subst hb; subst hc
  refine ⟨a, b, c, x, y, z, ?_, hA, hB, hC⟩
  congr 1
  apply Array.ext'
  apply List.ext_getElem?
  intro i
  match i with
  | 0 => simpa [Value.cells] using hv0
  | 1 => simpa [Value.cells] using hv1
  | 2 => simpa [Value.cells] using hv2
  | i + 3 => simp [Value.cells] at hl; simp [hl]

/-- Arguments read again behind a call that wrote nothing of theirs. -/
theorem trodAll_stays {P : Program} (hl : laidOutB P = true) {H : Type} {enc : TypeId × Value → H} {W W' : World} (hb : Below W.heap.size W W') : ∀ (ts : List TypeId) (vs : List Value) (ds : List (DataW H)) (p : List MemPlace),
    (ts.all fun t => P.readableRec t && decide (t < P.types.size)) = true → DataW.TrodAll enc P W 0 (fun _ => true) true ts vs ds p → DataW.TrodAll enc P W' 0 (fun b => decide (b < W.heap.size)) true ts vs ds p
  | [], vs, ds, p, _, h => by
    obtain ⟨rfl, rfl, rfl⟩ := trodAll_nil h
    exact trodAll_mk0
  | t :: ts, vs, ds, p, ha, h => by
    simp only [List.all_cons, Bool.and_eq_true, decide_eq_true_eq] at ha
    obtain ⟨v, vs', d, ds', p', q', rfl, rfl, rfl, h1, h2⟩ := trodAll_cons h
    refine trodAll_cons_mk (Below.trod hl ha.1.1 ha.1.2 h1 hb ?_) (trodAll_stays hl hb ts vs' ds' q' ha.2 h2)
    obtain ⟨m, hm⟩ := h1
    exact DataW.trod_lt m _ _ _ hm

end Go.GX
end

section
/- The laws' arguments read as data: the types of this program. -/
namespace Go.Proofs.YtaeledhbkdakcaaDoor
open Go.GX Go.RowKit
set_option maxRecDepth 100000

theorem laidOut : laidOutB Tryd.prog = true := by kernel_rfl

theorem reads_int : Reads Tryd.prog T.t_int Int := Reads.int (by kernel_rfl)
theorem reads_ints : Reads Tryd.prog T.t_sl_int (List Int) := Reads.slice (e := T.t_int) (by kernel_rfl) (by kernel_rfl) reads_int
theorem reads_end : Reads Tryd.prog T.t_l_End (Int × Int) := Reads.pair (u0 := T.t_int) (u1 := T.t_int) (by kernel_rfl) reads_int reads_int
theorem reads_ends : Reads Tryd.prog T.t_sl_l_End (List (Int × Int)) := Reads.slice (e := T.t_l_End) (by kernel_rfl) (by kernel_rfl) reads_end
theorem reads_endss : Reads Tryd.prog T.t_sl_sl_l_End (List (List (Int × Int))) := Reads.slice (e := T.t_sl_l_End) (by kernel_rfl) (by kernel_rfl) reads_ends

variable {H : Type} {enc : TypeId × Value → H} {w : World} {base b0 : Nat} {spare : Nat → Bool} {held : Bool} {r : Go.Reach} {v : Value} {d : DataW H} {p : List MemPlace}

theorem open_N (hv : Value.okWide Tryd.prog w r b0 T.t_l_Network v) (h : DataW.Trod enc Tryd.prog w base spare held T.t_l_Network v d p) : ∃ (a b c : Sl) (n : Net), v = .agg #[a.v, b.v, c.v] ∧ RNet w a b c n := by
  obtain ⟨a, b, c, x, y, z, rfl, h1, h2, h3⟩ := open_three (u0 := T.t_sl_sl_l_End) (u1 := T.t_sl_int) (u2 := T.t_sl_int) (by kernel_rfl) reads_endss reads_ints reads_ints hv h
  exact ⟨a, b, c, ⟨x, y, z⟩, rfl, h1, h2, h3⟩

end Go.Proofs.YtaeledhbkdakcaaDoor
end

section
/- Facts of this seat's program that every claim's last step asks for, each computed once (together they need more memory than a text may use). -/
namespace Go.Proofs.YtaeledhbkdakcaaDoor


theorem door_enters : Tryd.pinned.checked.prog.mayEnter = true := by kernel_rfl

theorem door_lifts : Tryd.pinned.checked.prog.liftsFinal = false := by kernel_rfl

theorem door_heard : Tryd.pinned.checked.prog.stopsHeard = true := by kernel_rfl

theorem door_laid : laidOutB Tryd.pinned.checked.prog = true := by kernel_rfl

theorem door_maps : mapsRowed Tryd.pinned.checked.prog = true := by kernel_rfl

end Go.Proofs.YtaeledhbkdakcaaDoor
end

section
/- The frame of a card: a contract at a world that has its shape and the listed variables. No program is named here. -/
namespace Go
open Go.ChangeShapes
variable {H : Type} {enc : TypeId × Value → H}

theorem handed_tied {a : Assume} {C : Checked} {os : Os} {f : FuncId} {fn : Func} {s : ChangeSpec} {conds : List PathCond} {apart fresh handsOn again : Bool} {X : World → Array Value → Prop}
    (hX : ∀ (w w' : World) (args : Array Value), w.heap = w'.heap → X w args → X w' args)
    (own : ownKnob C.prog.godebug = none) (started : os.Started) (noInit : C.prog.inits.idxOf? f = none) (hfn : C.prog.funcs[f]? = some fn)
    (witness : ∃ (w : World) (tape : Tape) (i : Input), w.os = os ∧ (w.forCall tape i).Shaped C.prog ∧ i.vars = [] ∧ Input.okWide C.prog (w.forCall tape i) .any w.heap.size f i ∧
      ((s.pre enc C.prog fn conds apart (w.forCall tape i).memory i.args ∧ X (w.forCall tape i).memory i.args) ∧ sizedMet enc C.prog fn (OpenSpec.ofChange s) apart (w.forCall tape i).memory i.args) ∧ a.holds C.prog (lone (Frame.enter C.prog f i.args .normal) [] (w.forCall tape i)))
    (contract : ∀ (W : World) (base : Nat) (args : Array Value) (ds gs : List (DataW H)) (before : List MemPlace),
      (∀ (j : Nat) t v, fn.params[j]? = some t → args[j]? = some v → Value.okWide C.prog W .any base t v) →
      DataW.Whole enc C.prog fn.params.toList s.vars apart W args.toList ds gs before →
      conds.all (PathCond.test C.prog ⟨fn.params.toList, ds, s.plain.varTypes C.prog, gs⟩) = true →
      (DataW.weightsEach C.prog (fn.params.toList ++ s.plain.varTypes C.prog) (ds ++ gs)).all (· ≤ reachBytes) = true → X W args → W.ShapedOpen C.prog →
      a.holds C.prog (lone (Frame.enter C.prog f args .normal) [] W) →
      Calls C.prog f args W fun e W' => ∃ v, e = .returned v ∧ s.post enc C.prog fn apart fresh handsOn again W args v W') :
    ReturnsInHanded a C os f .any (fun w args => (s.pre enc C.prog fn conds apart w args ∧ X w args) ∧ sizedMet enc C.prog fn (OpenSpec.ofChange s) apart w args) (s.post enc C.prog fn apart fresh handsOn again) := by
  refine returnsInHanded_of_calls own started noInit witness ?_
  intro w tape i _ hsh _ hok hpre hholds
  obtain ⟨_, _, _, fn', hfn', _, _, _, _, hval⟩ := hok
  have e : fn' = fn := Option.some.inj (hfn'.symm.trans hfn)
  subst e
  obtain ⟨⟨⟨ds, gs, before, hw, hc⟩, hx⟩, hz⟩ := hpre
  have hw' := DataW.Whole.of_heap (w' := w.forCall tape i) (by rfl) hw
  refine (contract (w.forCall tape i) w.heap.size i.args ds gs before hval hw' hc (hz.weights hw) (hX _ _ _ (by rfl) hx) hsh hholds).mono fun e W' ⟨v, he, hp⟩ => ?_
  subst he
  exact ChangeSpec.post_blind hp

theorem laidMet_tail {P : Program} {x : String × DataW Unit} {rest : List (String × DataW Unit)} {w : World} (h : laidMet P (x :: rest) w) : laidMet P rest w := by
  obtain ⟨ps, ⟨g, t, cs, f, p, q, _, _, _, _, hr, rfl⟩, hn, ha⟩ := h
  exact ⟨q, hr, (List.nodup_append.1 hn).2.1, fun b off hb => ha b off (List.mem_append.2 (.inr hb))⟩

/-- Is a variable a table of numbers of one kind? -/
def tabOkB (P : Program) (name : String) (k : IntKind) (n : Nat) : Bool :=
  match P.globalNamed name with
  | some g => match (P.globals[g]?).map (·.type) with
    | some t => match P.underlying t with
      | some (.array m e) => Nat.beq m n && (match P.underlying e with | some (.int k') => decide (k' = k) | _ => false) && Nat.beq (P.cellsOf e) 1 && Nat.beq (P.cellsOf t) n
      | _ => false
    | none => false
  | none => false

theorem tabIs_of_laid {P : Program} {W : World} {name : String} {k : IntKind} {zs : List Int} {n : Nat} {d : DataW Unit} {rest : List (String × DataW Unit)} (hb : tabOkB P name k n = true) (hd : d = Lib.tabData k zs)
    (h : laidMet P ((name, d) :: rest) W) : Lib.TabIs P W name k zs := by
  subst hd
  unfold tabOkB at hb
  split at hb
  · rename_i g hg
    split at hb
    · rename_i t ht
      split at hb
      · rename_i m e hu
        simp only [Bool.and_eq_true] at hb
        obtain ⟨⟨⟨h1, h2⟩, h3⟩, h4⟩ := hb
        have e1 := Nat.eq_of_beq_eq_true h1
        have e3 := Nat.eq_of_beq_eq_true h3
        have e4 := Nat.eq_of_beq_eq_true h4
        subst e1
        split at h2
        · rename_i k' hk
          have := of_decide_eq_true h2
          subst this
          exact Lib.tabIs_of_head hg ht hu hk e3 e4 h
        · cases h2
      · cases hb
    · cases hb
  · cases hb

end Go
end
