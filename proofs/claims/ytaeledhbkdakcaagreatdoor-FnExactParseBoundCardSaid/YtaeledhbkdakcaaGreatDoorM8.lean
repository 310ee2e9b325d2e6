/- Own texts, merged: PbLine, PbI, ParseRo3, PbS1, PbS2, PbS3, PbS4, ParseBoundWalk, Door, CardFrame. -/
import Derived.Test.YtaeledhbkdakcaaGreatDoorM7
import Derived.Test.YtaeledhbkdakcaaGreatDoorRows
import Derived.KernelRfl
import Derived.JoinedOf
import Derived.HandedShaped
import Derived.Handed
import Derived.Shelf.Vars
import Derived.Lib.LaidTab
import Derived.MakeChecks
import Derived.LaidMore
import Derived.Lay
import Derived.Stop.Joined
import Derived.LaidLaws
set_option linter.unusedVariables false
section
/- One line of a bound's text: the program's side. -/
namespace Go.Proofs.YtaeledhbkdakcaaGreatDoor
open Go.GX Go.RowKit
set_option maxRecDepth 100000

/-- How many rows a bound has at most. -/
structure StB (n : Nat) (B : Bnd) : Prop where
  ps : B.ps.length ≤ n
  rows : ∀ q ∈ B.ps, q.nodes.length ≤ n ∧ q.edges.length ≤ n
  maps : B.maps.length ≤ n
  pairs : B.pairs.length ≤ n

theorem onLast_mem {l : List Prob} {f : Prob → Prob} {q : Prob} (h : q ∈ onLast l f) (hl : l ≠ []) : q ∈ l ∨ ∃ p ∈ l, q = f p := by
  have h0 : l.length - 1 < l.length := by have := List.length_pos_iff.2 hl; omega
  rw [onLast_eq f h0] at h
  rcases List.mem_or_eq_of_mem_set h with h | h
  · exact .inl h
  · exact .inr ⟨_, List.getElem_mem h0, h⟩

theorem StB.step {n : Nat} {B B' : Bnd} {x : Itm} (h : StB n B) (hs : bStep B x = some B') : StB (n + 1) B' := by
  have h1 := h.ps
  have h3 := h.maps
  have h4 := h.pairs
  have hr : ∀ q ∈ B.ps, q.nodes.length ≤ n + 1 ∧ q.edges.length ≤ n + 1 := fun q hq => by have := h.rows q hq; omega
  have hon : ∀ f, (onLast B.ps f).length = B.ps.length := fun f => by unfold onLast; rw [List.length_set]
  unfold bStep at hs
  split at hs
  · cases hs
    refine ⟨by simp; omega, fun q hq => ?_, by show B.maps.length ≤ _; omega, by show B.pairs.length ≤ _; omega⟩
    rcases List.mem_append.1 hq with hq | hq
    · exact hr q hq
    · rw [List.mem_singleton.1 hq]; simp
  split at hs
  · cases hs
  next hne =>
  split at hs
  · cases hs
    refine ⟨by show (onLast _ _).length ≤ _; rw [hon]; omega, fun q hq => ?_, by show B.maps.length ≤ _; omega, by show B.pairs.length ≤ _; omega⟩
    rcases onLast_mem hq hne with hq | ⟨p, hp, rfl⟩
    · exact hr q hq
    · have := h.rows p hp
      simp only [addN, List.length_append, List.length_singleton]; omega
  split at hs
  · cases hs
    refine ⟨by show (onLast _ _).length ≤ _; rw [hon]; omega, fun q hq => ?_, by show B.maps.length ≤ _; omega, by show B.pairs.length ≤ _; omega⟩
    rcases onLast_mem hq hne with hq | ⟨p, hp, rfl⟩
    · exact hr q hq
    · have := h.rows p hp
      simp only [addE, List.length_append, List.length_singleton]; omega
  split at hs
  · cases hs
    exact ⟨by show B.ps.length ≤ _; omega, hr, by simp; omega, by show B.pairs.length ≤ _; omega⟩
  split at hs
  · cases hs
    exact ⟨by show B.ps.length ≤ _; omega, hr, by show B.maps.length ≤ _; omega, by simp; omega⟩
  · cases hs

/-- The state that a line leaves behind. -/
def BlOut (base : Nat) (p0 : Addr) (w' : World) (B' : Bnd) : Prop := ∃ x' y' z' : Sl, Box w' p0 T.t_i_Bound [x'.v, y'.v, z'.v] ∧ OutB base w'.heap.size w' x' y' z' B'

def BlAns (base : Nat) (p0 : Addr) (l : List UInt8) (B : Bnd) (ok : Bool) (w' : World) : Prop :=
  (ok = true ∧ ∃ wd ns B', splitB 32 l = wd :: ns.map numS ∧ Six ns ∧ bStep B (wd, ns) = some B' ∧ BlOut base p0 w' B') ∨
  (ok = false ∧ ∀ wd ns, splitB 32 l = wd :: ns.map numS → Six ns → bStep B (wd, ns) = none)

/-- One field of a variable is written. -/
theorem ST_boxG {w : World} {p : Addr} {t : TypeId} {cs : List Value} {i : Nat} {v : Value} {K : World → Prop} (h : Box w p t cs) (hi : i < cs.length) (h1 : v.oneCell' = true)
    (hk : ∀ w', Chg w w' (fun c => c = p.block) → w'.heap.size = w.heap.size → Box w' p t (cs.set i v) → K w') : GX.ST (p.add i) 0 [v] w K :=
  ST_box1 h hi h1 fun w' hz hb hX hB => by
    have hE := hX { w with heap := #[] } ⟨rfl, rfl, rfl, Nat.zero_le _, fun k hk => absurd hk (Nat.not_lt_zero k)⟩ (Nat.zero_le _)
    exact hk w' ⟨hE.os, hE.tape, hE.output, by omega, fun k _ hn => hb k hn⟩ hz hB

theorem boundLine_ok {w : World} (g : GV w) {base : Nat} {p0 : Addr} {x y z : Sl} {B : Bnd} {l : List UInt8} (hb : Box w p0 T.t_i_Bound [x.v, y.v, z.v]) (hp : p0.block < base) (hbt : base ≤ w.heap.size) (hO : OutB base w.heap.size w x y z B) {n : Nat} (hS : StB n B) (hn : n < 1048576) (hl : l.length < 1048576) :
    Calls Tryz.prog F.i_boundLine #[.pointer (some p0), .string (mkS l)] w (Ret [.at .bool] fun (ok : Bool) w' => Chg w w' (fun b => b = p0.block ∨ base ≤ b) ∧ BlAns base p0 l B ok w') := by
  refine C_i_boundLine ?_
  unfold V_i_boundLine
  rw [mk_lit [32], mk_lit [112, 114, 111, 98, 108, 101, 109]]
  refine call (Split_ok g (l := l) (c := 32) (by omega)) ?_
  rintro sw w1 ⟨hE1, hRw⟩
  obtain ⟨wd, ws, hws⟩ := List.exists_cons_of_ne_nil (splitB_ne 32 l)
  have hwl := splitB_len 32 l
  have hwm := fun y (hy : y ∈ splitB 32 l) => (splitB_mem hy).2
  rw [hws] at hRw hwl hwm
  have hRw' : R w1 sw (mkS wd :: ws.map mkS) := hRw
  refine slr_drop (i := 1) hRw' (by simp) rfl fun st hst => ?_
  have hst' : R w1 st (ws.map mkS) := by simpa using hst.any
  simp only [List.length_cons] at hwl
  have hz1 := hE1.size_le
  refine call (starNumbers_ok (g.ext hE1) hst' (by omega) fun y hy => by have := hwm y (by simp [hy]); omega) ?_
  rintro sn ok2 w2 ⟨hE2, hA⟩
  have hE02 := hE1.trans hE2
  have hz2 := hE2.size_le
  -- no line
  have no : ∀ {w' : World}, Ext w w' → (∀ wd ns, splitB 32 l = wd :: ns.map numS → Six ns → bStep B (wd, ns) = none) → Chg w w' (fun b => b = p0.block ∨ base ≤ b) ∧ BlAns base p0 l B false w' :=
    fun hE h => ⟨.of_ext hE, .inr ⟨rfl, h⟩⟩
  refine cond_not (fun hf => no hE02 fun wd' ns h1 h2 => ?_) (fun ht2 => ?_)
  · rcases hA with ⟨hA, _⟩ | ⟨_, hA⟩
    · rw [hA] at hf; cases hf
    · rw [hws] at h1
      obtain ⟨_, h4⟩ := List.cons.inj h1
      exact absurd (h4 ▸ stars_of h2) (hA ns)
  rcases hA with ⟨_, ns, hns, hOn⟩ | ⟨hA, _⟩
  rotate_left
  · rw [hA] at ht2; cases ht2
  have hn64 : ∀ y ∈ ns, I64 y := fun y hy => by have := hns.2 y hy; show I64 _; unfold I64; omega
  have hnl : ns.length = ws.length := by rw [← hns.1, List.length_map]
  have hns1 : splitB 32 l = wd :: ns.map numS := by rw [hws, hns.1]
  have huq : ∀ wd' ns', splitB 32 l = wd' :: ns'.map numS → Six ns' → wd' = wd ∧ ns' = ns := fun wd' ns' h1 h2 => by
    rw [hws] at h1
    obtain ⟨h3, h4⟩ := List.cons.inj h1
    exact ⟨h3.symm, (hns.unique (h4 ▸ stars_of h2)).symm⟩
  have no2 : ∀ {w' : World}, Ext w w' → bStep B (wd, ns) = none → Chg w w' (fun b => b = p0.block ∨ base ≤ b) ∧ BlAns base p0 l B false w' :=
    fun hE h => no hE fun wd' ns' h1 h2 => by
      obtain ⟨rfl, rfl⟩ := huq wd' ns' h1 h2
      exact h
  have yes : ∀ {w' : World} {B' : Bnd}, Chg w w' (fun b => b = p0.block ∨ base ≤ b) → bStep B (wd, ns) = some B' → BlOut base p0 w' B' → Chg w w' (fun b => b = p0.block ∨ base ≤ b) ∧ BlAns base p0 l B true w' :=
    fun hC h1 h2 => ⟨hC, .inl ⟨rfl, wd, ns, _, hns1, hns.2, h1, h2⟩⟩
  have hget0 : ∀ {w' : World} {K : Addr → Prop}, Ext w2 w' → (∀ pa, w'.cell? pa = some (.string (mkS wd)) → K pa) → IX sw 0 1 K := fun hE hk => (SlR.ixStr (L := wd :: ws) (i := 0) (hRw'.ext (hE2.trans hE)) (by simp)) hk
  -- what a change leaves of the variable; a field of it that is written
  have fld : ∀ {w3 w4 : World} {x' y' z' v' : Sl} {B' : Bnd} {i : Nat}, Ext w w3 → Chg w3 w4 (fun b => base ≤ b ∧ b < w.heap.size) → OutB base w4.heap.size w4 x' y' z' B' → i < 3 → ([x.v, y.v, z.v].set i v'.v = [x'.v, y'.v, z'.v]) → bStep B (wd, ns) = some B' →
      GX.ST (p0.add i) 0 [v'.v] w4 fun w5 => Chg w w5 (fun b => b = p0.block ∨ base ≤ b) ∧ BlAns base p0 l B true w5 := by
    intro w3 w4 x' y' z' v' B' i hE3 hC hO' hi hv hst
    have hb4 := (hb.ext hE3).chg hC fun hD => by omega
    refine ST_boxG hb4 (by simpa using hi) rfl fun w5 hC5 hz5 hb5 => ?_
    rw [hv] at hb5
    have hC4 : Chg w w4 (fun b => b = p0.block ∨ base ≤ b) := (Chg.of_ext hE3).trans (hC.mono fun b hD => .inr hD.1)
    refine yes (hC4.trans (hC5.mono fun b hD => .inl hD)) hst ⟨x', y', z', hb5, ?_⟩
    rw [hz5]
    exact hO'.keep fun b k1 _ k3 => hC5.block b k3 fun he => by omega
  have hps : x.len = B.ps.length := hO.bnd.ps.len
  have hSp := hS.ps
  have hSm := hS.maps
  have hSq := hS.pairs
  -- the lines that are no first ones
  have k2 : ¬ (wd = wProblem ∧ ns.length = 2) → V_i_boundLine_k2 p0 (fun (ok : Bool) w' => Chg w w' (fun b => b = p0.block ∨ base ≤ b) ∧ BlAns base p0 l B ok w') sw sn w2 := by
    intro hnp
    unfold V_i_boundLine_k2
    refine LD_bs0 (hb.ext hE02) ?_
    rw [hps]
    refine cond_eq (fun h0 => no2 hE02 ?_) (fun h0 => ?_)
    · have : B.ps = [] := List.length_eq_zero_iff.1 (by omega)
      unfold bStep
      rw [if_neg hnp, if_pos this]
    have hne : B.ps ≠ [] := fun h => h0 (by rw [h]; rfl)
    have hlt : B.ps.length - 1 < B.ps.length := by have := List.length_pos_iff.2 hne; omega
    intro w11 hE11 _
    have hE011 := hE02.trans hE11
    have hb11 := hb.ext hE011
    have hO11 := hO.ext hE011
    have hz11 := hE011.size_le
    have hr11 := hOn.ext hE11
    have hSr := hS.rows _ (List.getElem_mem hlt)
    have hix : ∀ {K : Addr → Prop}, (∀ p, Plc x (B.ps.length - 1) 4 p → K p) → IX x (IntKind.i64.wrap (((B.ps.length : Nat) : Int) - 1)) 4 K := fun hk => by
      obtain ⟨own, ⟨⟨rs, hOr, hrl, _⟩, _⟩, _⟩ := hO11.ex
      have e1 : IntKind.i64.wrap (((B.ps.length : Nat) : Int) - 1) = ((B.ps.length - 1 : Nat) : Int) := by rw [wrap_of (by omega) (by omega)]; omega
      rw [e1]
      exact IX_own hOr (by omega) rfl hk
    have k6 : ∀ p, Plc x (B.ps.length - 1) 4 p → V_i_boundLine_k6 p0 (fun (ok : Bool) w' => Chg w w' (fun b => b = p0.block ∨ base ≤ b) ∧ BlAns base p0 l B ok w') sw sn p w11 := by
      intro p hpl
      unfold V_i_boundLine_k6
      rw [mk_lit [110, 111, 100, 101], mk_lit [101, 100, 103, 101], mk_lit [109, 97, 112], mk_lit [110, 111, 116]]
      refine hget0 hE11 fun pa hc => LD_str hc ?_
      have hsame : ∀ {w' : World} {B' : Bnd}, Chg w11 w' (fun b => base ≤ b ∧ b < w.heap.size) → OutB base w'.heap.size w' x y z B' → BlOut base p0 w' B' := fun hC hO' => ⟨x, y, z, hb11.chg hC fun hD => by omega, hO'⟩
      have hCw : ∀ {w' : World}, Chg w11 w' (fun b => base ≤ b ∧ b < w.heap.size) → Chg w w' (fun b => b = p0.block ∨ base ≤ b) := fun hC => (Chg.of_ext hE011).trans (hC.mono fun b hD => .inr hD.1)
      refine cond_seq (a := wd) (b := wNode) (fun heq => ?_) (fun hn1 => ?_)
      · refine hO11.pushN hbt hz11 hz1 hr11 hn64 hlt (by omega) (by omega) hpl fun w' hO' hC' => yes (hCw hC') ?_ (hsame hC' hO')
        unfold bStep
        rw [if_neg hnp, if_neg hne, if_pos heq]
      refine cond_seq (a := wd) (b := wEdge) (fun heq => ?_) (fun hn2 => ?_)
      · refine hO11.pushE hbt hz11 hz1 hr11 hn64 hlt (by omega) (by omega) hpl fun w' hO' hC' => yes (hCw hC') ?_ (hsame hC' hO')
        unfold bStep
        rw [if_neg hnp, if_neg hne, if_neg hn1, if_pos heq]
      refine cond_seq (a := wd) (b := wMap) (fun heq => ?_) (fun hn3 => ?_)
      · refine LD_bs1 hb11 (hO11.pushM hbt hz11 hz1 hr11 hn64 (by omega) (by omega) fun s' w' hO' hC' => ?_)
        refine fld (i := 1) hE011 hC' hO' (by omega) rfl ?_
        unfold bStep
        rw [if_neg hnp, if_neg hne, if_neg hn1, if_neg hn2, if_pos heq]
      refine cond_seq (a := wd) (b := wNot) (fun heq => ?_) (fun hn4 => no2 hE011 ?_)
      · refine LD_bs2 hb11 (hO11.pushP hbt hz11 hz1 hr11 hn64 (by omega) (by omega) fun s' w' hO' hC' => ?_)
        refine fld (i := 2) hE011 hC' hO' (by omega) rfl ?_
        unfold bStep
        rw [if_neg hnp, if_neg hne, if_neg hn1, if_neg hn2, if_neg hn3, if_pos heq]
      · unfold bStep
        rw [if_neg hnp, if_neg hne, if_neg hn1, if_neg hn2, if_neg hn3, if_neg hn4]
    refine ⟨⟨Ext.refl _, LD_bs0 hb11 ⟨Ext.refl _, Ext.refl _, LD_bs0 hb11 ⟨Ext.refl _, Ext.refl _, Ext.refl _, ?_⟩⟩⟩, ⟨Ext.refl _, LD_bs0 hb11 ⟨Ext.refl _, Ext.refl _, LD_bs0 hb11 ⟨Ext.refl _, ?_⟩⟩⟩⟩
    all_goals
      rw [hps]
      exact hix fun p hpl => ⟨Ext.refl _, Ext.refl _, k6 p hpl⟩
  refine hget0 (Ext.refl _) fun pa hc => LD_str hc ?_
  refine cond_seq (a := wd) (b := wProblem) (fun heq => ?_) (fun hne => k2 fun h => hne h.1)
  rw [hOn.1]
  refine cond_eq (fun h2 => ?_) (fun h2 => k2 fun h => h2 (by rw [h.2]; rfl))
  obtain ⟨n0, n1, rfl⟩ : ∃ a b, ns = [a, b] := by
    match ns, h2 with
    | [a, b], _ => exact ⟨a, b, rfl⟩
  intro w3 hE3 _
  have hE03 := hE02.trans hE3
  have hb3 := hb.ext hE03
  have hO3 := hO.ext hE03
  have hz3 := hE03.size_le
  have hR3 := (hOn.ext hE3).rep hn64
  refine hR3.ixI (i := 0) (by simp) fun q0 _ hc0 => hR3.ixI (i := 1) (by simp) fun q1 _ hc1 => ?_
  have hq : RecB w.heap.size w3.heap.size (fun _ => 0) 0 w3 ⟨n0, n1, ⟨none, 0, 0⟩, ⟨none, 0, 0⟩⟩ ⟨n0, n1, [], []⟩ := ⟨rfl, rfl, hn64 n0 (by simp), hn64 n1 (by simp), InB.nil _ _ _ _ _, InB.nil _ _ _ _ _⟩
  have hst : bStep B (wd, [n0, n1]) = some ⟨B.ps ++ [⟨n0, n1, [], []⟩], B.maps, B.pairs⟩ := by
    unfold bStep
    rw [if_pos ⟨heq, rfl⟩]; rfl
  have fin : ∀ (s' : Sl) (w' : World), OutB base w'.heap.size w' s' y z ⟨B.ps ++ [⟨n0, n1, [], []⟩], B.maps, B.pairs⟩ → Chg w3 w' (fun b => base ≤ b ∧ b < w.heap.size) →
      GX.ST (p0.add 0) 0 [s'.v] w' fun w6 => Chg w w6 (fun b => b = p0.block ∨ base ≤ b) ∧ BlAns base p0 l B true w6 := fun s' w' hO' hC' => fld (i := 0) hE03 hC' hO' (by omega) rfl hst
  have f1 := hO3.pushQ (r := ⟨n0, n1, ⟨none, 0, 0⟩, ⟨none, 0, 0⟩⟩) hbt hq (Nat.le_refl _) hz3 (Nat.le_refl _) (by omega) fin
  have f2 : RUN Tryz.prog (.at .sl) (Instr.buildSlice T.t_sl_i_Problem 1 #[(0, .agg #[.int .i64 n0, .int .i64 n1, .slice none 0 0, .slice none 0 0])]) w3 fun y0 w1 => LD [.sl] (p0.add 0) w1 fun (x' : Sl) => RUN Tryz.prog (.at .sl) (bsem .append #[T.t_sl_i_Problem, T.t_sl_i_Problem] T.t_sl_i_Problem #[x'.v, y0.v]) w1 fun s' w' => GX.ST (p0.add 0) 0 [s'.v] w' fun w6 => Chg w w6 (fun b => b = p0.block ∨ base ≤ b) ∧ BlAns base p0 l B true w6 :=
    RUN_lit1 (α := PRec) slt_prob ⟨n0, n1, ⟨none, 0, 0⟩, ⟨none, 0, 0⟩⟩ rfl (by decide) fun y0 w1 hE1 hO1 => LD_bs0 (hb3.ext hE1) (hO3.pushQ1 hbt hq (Nat.le_refl _) hz3 (Nat.le_refl _) (by omega) fin hE1 hO1)
  repeat' (first | exact f1 | exact f2 | (refine And.intro ?_ ?_) | (refine LD_bs0 hb3 ?_) | (refine LD_int hc0 ?_) | (refine LD_int hc1 ?_))

end Go.Proofs.YtaeledhbkdakcaaGreatDoor
end

section
/- Texts of bounds read: the program's side. -/
namespace Go.Proofs.YtaeledhbkdakcaaGreatDoor
open Go.GX Go.RowKit
set_option maxRecDepth 100000

/-- A right bound is small. -/
theorem PGood.small {q : Prob} (h : PGood q) : SmallP q := by
  have h1 := h.count
  have h2 := h.deg
  refine ⟨⟨by omega, fun r hr => ?_⟩, ⟨by omega, fun r hr => ?_⟩⟩
  · obtain ⟨i, hi, rfl⟩ := List.mem_iff_getElem.1 hr
    have := (h.nodes.row i hi).1; omega
  · obtain ⟨i, hi, rfl⟩ := List.mem_iff_getElem.1 hr
    have := (h.edges.row i hi).1; omega

/-- A right bound. -/
structure RtB (B : Bnd) : Prop where
  ok : PsOk B.ps
  right : Right B
theorem RtB.few {B : Bnd} (h : RtB B) : BFew B := bound_few h.ok h.right fun q hq => (h.ok.2 q hq).1.small
theorem RtB.ne {B : Bnd} (h : RtB B) : B.ps ≠ [] := fun he => by have := h.ok.1.1; rw [he] at this; simp at this
theorem RtB.pgood {B : Bnd} (h : RtB B) : ∀ q ∈ B.ps, PGood q := fun q hq => (h.ok.2 q hq).1

/-- What a line's word and numbers are. -/
structure ItmOk (x : Itm) : Prop where
  w32 : (32 : UInt8) ∉ x.1
  w10 : (10 : UInt8) ∉ x.1
  six : Six x.2
theorem ItmOk.split {x : Itm} (h : ItmOk x) : splitB 32 (itmS x) = x.1 :: x.2.map numS := lineS_words h.w32
theorem ItmOk.no10 {x : Itm} (h : ItmOk x) : (10 : UInt8) ∉ itmS x := lineS_no10 h.w10

theorem PGood.items {q : Prob} (h : PGood q) (hs : Few q.nodes ∧ Few q.edges) : ∀ x ∈ itemsP q, ItmOk x := by
  intro x hx
  rcases List.mem_cons.1 hx with rfl | hx
  · exact ⟨(by decide : (32 : UInt8) ∉ wProblem), (by decide : (10 : UInt8) ∉ wProblem), h.head⟩
  · rcases List.mem_append.1 hx with hx | hx
    · obtain ⟨r, hr, rfl⟩ := List.mem_map.1 hx
      exact ⟨(by decide : (32 : UInt8) ∉ wNode), (by decide : (10 : UInt8) ∉ wNode), (hs.1.2 r hr).2⟩
    · obtain ⟨r, hr, rfl⟩ := List.mem_map.1 hx
      exact ⟨(by decide : (32 : UInt8) ∉ wEdge), (by decide : (10 : UInt8) ∉ wEdge), (hs.2.2 r hr).2⟩
theorem BFew.items {B : Bnd} (h : BFew B) : ∀ x ∈ itemsB B, ItmOk x := by
  intro x hx
  rcases List.mem_append.1 hx with hx | hx
  · obtain ⟨q, hq, hx⟩ := List.mem_flatMap.1 hx
    exact (h.good q hq).1.items (h.good q hq).2 x hx
  · rcases List.mem_append.1 hx with hx | hx
    · obtain ⟨r, hr, rfl⟩ := List.mem_map.1 hx
      exact ⟨(by decide : (32 : UInt8) ∉ wMap), (by decide : (10 : UInt8) ∉ wMap), (h.maps.1.2 r hr).2⟩
    · obtain ⟨r, hr, rfl⟩ := List.mem_map.1 hx
      exact ⟨(by decide : (32 : UInt8) ∉ wNot), (by decide : (10 : UInt8) ∉ wNot), (h.pairs.1.2 r hr).2⟩

theorem words_eq {wd wd' : List UInt8} {ns ns' : List Int} (h : wd :: ns.map numS = wd' :: ns'.map numS) (h1 : Six ns) (h2 : Six ns') : wd = wd' ∧ ns = ns' := by
  obtain ⟨h3, h4⟩ := List.cons.inj h
  have h5 := stars_of h1
  rw [h4] at h5
  exact ⟨h3, h5.unique (stars_of h2)⟩
theorem itm_inj {x y : Itm} (hx : ItmOk x) (hy : ItmOk y) (h : itmS x = itmS y) : x = y := by
  have e := congrArg (splitB 32) h
  rw [hx.split, hy.split] at e
  obtain ⟨h1, h2⟩ := words_eq e hx.six hy.six
  exact Prod.ext h1 h2
theorem itms_inj : ∀ {L M : List Itm}, (∀ x ∈ L, ItmOk x) → (∀ x ∈ M, ItmOk x) → L.map itmS = M.map itmS → L = M
  | [], [], _, _, _ => rfl
  | [], _ :: _, _, _, h => by cases h
  | _ :: _, [], _, _, h => by cases h
  | x :: L, y :: M, h1, h2, h => by
    obtain ⟨e1, e2⟩ := List.cons.inj h
    rw [itm_inj (h1 x (by simp)) (h2 y (by simp)) e1, itms_inj (fun a ha => h1 a (by simp [ha])) (fun a ha => h2 a (by simp [ha])) e2]

theorem lines_inj {L M : List (List UInt8)} (h1 : ∀ x ∈ L, (10 : UInt8) ∉ x) (h2 : ∀ x ∈ M, (10 : UInt8) ∉ x) (h : linesS L = linesS M) : L = M := by
  have e := congrArg (splitB 10) h
  rw [linesS_split h1, linesS_split h2] at e
  exact (List.append_inj' e rfl).1

theorem RtB.no10 {B : Bnd} (h : RtB B) : ∀ x ∈ (itemsB B).map itmS, (10 : UInt8) ∉ x := by
  intro x hx
  obtain ⟨y, hy, rfl⟩ := List.mem_map.1 hx
  exact (h.few.items y hy).no10
theorem rtText_inj {B C : Bnd} (hB : RtB B) (hC : RtB C) (h : boTextS B = boTextS C) : B = C := by
  rw [boText_items, boText_items] at h
  exact boText_inj hB.ne hC.ne (itms_inj hB.few.items hC.few.items (lines_inj hB.no10 hC.no10 h))

/-- What reading a bound answers. -/
structure PbAns (l : List UInt8) (B : Bnd) (ok : Bool) : Prop where
  yes : ok = true → RtB B ∧ boTextS B = l
  no : ok = false → B = nilB ∧ ∀ C, RtB C → boTextS C ≠ l
theorem PbAns.eq {l : List UInt8} {B C : Bnd} {a b : Bool} (h : PbAns l B a) (h' : PbAns l C b) : B = C ∧ a = b := by
  cases a with
  | true =>
    obtain ⟨h1, h2⟩ := h.yes rfl
    cases b with
    | true => obtain ⟨h3, h4⟩ := h'.yes rfl; exact ⟨rtText_inj h1 h3 (h2.trans h4.symm), rfl⟩
    | false => exact absurd h2 ((h'.no rfl).2 B h1)
  | false =>
    cases b with
    | true => obtain ⟨h3, h4⟩ := h'.yes rfl; exact absurd h4 ((h.no rfl).2 C h3)
    | false => exact ⟨(h.no rfl).1.trans (h'.no rfl).1.symm, rfl⟩
theorem PbAns.pre {l : List UInt8} {B : Bnd} {ok : Bool} (h : PbAns l B ok) : preP B.ps B.ps.length ≤ 16777216 := by
  cases ok with
  | true => exact good_pre (h.yes rfl).1.ok
  | false => rw [(h.no rfl).1]; simp [nilB, preP]

theorem outB_nil (base top : Nat) (w : World) : OutB base top w ⟨none, 0, 0⟩ ⟨none, 0, 0⟩ ⟨none, 0, 0⟩ nilB := ⟨fun _ => 0, ⟨⟨[], OwnL.nil _ _ _, rfl, (fun b hb => by cases hb), (fun j h1 => by simp at h1)⟩, by simp [nilB]⟩, InB.nil _ _ _ _ _, InB.nil _ _ _ _ _⟩
theorem OutB.smallB {base top : Nat} {w : World} {x y z : Sl} {B : Bnd} (h : OutB base top w x y z B) : SmallB B := by
  obtain ⟨own, h1, h2, h3⟩ := h.ex
  refine ⟨h1.len, fun q hq => ?_, ⟨h2.rows, h2.small⟩, ⟨h3.rows, h3.small⟩⟩
  obtain ⟨j, hj, rfl⟩ := List.mem_iff_getElem.1 hq
  obtain ⟨rs, _, hrl, _, hr⟩ := h1.ex
  have := hr j (by omega) hj
  exact ⟨⟨this.nodes.rows, this.nodes.small⟩, ⟨this.edges.rows, this.edges.small⟩⟩

theorem OutB.upTo {base top : Nat} {w : World} {x y z : Sl} {B : Bnd} (h : OutB base top w x y z B) {t : Nat} (ht : top ≤ t) : OutB base t w x y z B := by
  obtain ⟨own, h1, h2, h3⟩ := h.ex
  exact ⟨own, h1.grow (fun _ _ _ => rfl) ht, h2.upTo ht, h3.upTo ht⟩

theorem ParseBound_ok {w : World} (g : GV w) {l : List UInt8} (hl : l.length ≤ 1048576) :
    Calls Tryz.prog F.i_ParseBound #[.string (mkS l)] w (Ret [.agg [.sl, .sl, .sl], .at .bool] fun (x y z : Sl) (ok : Bool) w' => Ext w w' ∧ ∃ B, OutB w.heap.size w'.heap.size w' x y z B ∧ PbAns l B ok) := by
  refine C_i_ParseBound ?_
  unfold V_i_ParseBound
  refine NEW_intro fun px w1 hp1 hs1 hE1 hb1 => ?_
  have hzx := hb1.lt
  -- nothing is read
  have no : ∀ {w' : World}, Ext w1 w' → (∀ C, RtB C → boTextS C ≠ l) → GX.ST px 0 [.slice none 0 0, .slice none 0 0, .slice none 0 0] w' fun w'' => LD [.sl, .sl, .sl] px w'' fun (x y z : Sl) => Ext w w'' ∧ ∃ B, OutB w.heap.size w''.heap.size w'' x y z B ∧ PbAns l B false := by
    intro w' hE hn
    refine ST_all (vs := [(⟨none, 0, 0⟩ : Sl).v, (⟨none, 0, 0⟩ : Sl).v, (⟨none, 0, 0⟩ : Sl).v]) (hb1.ext hE) (one3 _ _ _) rfl fun w'' hs hz hb => LD_box3 hb ?_
    exact ⟨hs.ext0 (hE1.trans hE) fun k hk => by cases hk; omega, nilB, outB_nil _ _ _, ⟨(fun h => by cases h), fun _ => ⟨rfl, hn⟩⟩⟩
  refine call (endedLines_ok (g.ext hE1) (by omega)) ?_
  rintro sL ok w2 ⟨hE2, hr⟩
  have hE02 := hE1.trans hE2
  refine cond_not (fun hf => no hE2 fun C hC hp => ?_) (fun ht => ?_)
  · rcases hr with ⟨hr, _⟩ | ⟨_, hr⟩
    · rw [hr] at hf; cases hf
    · rw [boText_items] at hp
      obtain ⟨x, hx⟩ := linesS_end (L := (itemsB C).map itmS) (by
        intro he
        have h0 := hC.ne
        obtain ⟨q, r, hq⟩ := List.exists_cons_of_ne_nil h0
        unfold itemsB at he
        rw [hq] at he
        simp [itemsP] at he)
      exact hr x (hp.symm.trans hx)
  rcases hr with ⟨_, x, hx, hRL⟩ | ⟨hr, _⟩
  rotate_left
  · rw [hr] at ht; cases ht
  have hLx := splitB_len 10 x
  have hxl : x.length + 1 = l.length := by rw [hx]; simp
  have hpc := fun y (hy : y ∈ splitB 10 x) => (splitB_mem hy).2
  have hOf : ∀ C, RtB C → boTextS C = l → (itemsB C).map itmS = splitB 10 x := fun C hC hp => by
    rw [boText_items] at hp
    exact (linesS_rest hC.no10 (hp.trans hx)).symm
  generalize splitB 10 x = L at hRL hLx hpc hOf
  refine NEW_intro fun pb w4 hp4 hs4 hE4 hb4 => ?_
  have hz2 := hE2.size_le
  have hpb : pb.block < w4.heap.size := hb4.lt
  rw [hRL.len, List.length_map]
  refine ⟨IN L.length fun i w' => Ext w2 w' ∧ w4.heap.size ≤ w'.heap.size ∧ ∃ (x y z : Sl) (B : Bnd), Box w' pb T.t_i_Bound [x.v, y.v, z.v] ∧ OutB w4.heap.size w'.heap.size w' x y z B ∧ StB i B ∧ ∀ C, RtB C → boTextS C = l → bRun B ((itemsB C).drop i) = some C,
    MN L.length, IN_zero ⟨hE4, Nat.le_refl _, ⟨none, 0, 0⟩, ⟨none, 0, 0⟩, ⟨none, 0, 0⟩, nilB, hb4, outB_nil _ _ _, ⟨by simp [nilB], by simp [nilB], by simp [nilB], by simp [nilB]⟩, fun C hC _ => by rw [List.drop_zero]; exact bRun_items hC.ne⟩, ?_⟩
  rintro _ w5 ⟨i, rfl, hi, hE25, hz45, x, y, z, B, hb5, hO5, hS5, hB5⟩
  intros
  have hg5 := (g.ext hE02).ext hE25
  refine cond_dec (fun hlt => ?_) (fun hge => ?_)
  · have hi' : i < L.length := by omega
    have hLi := hpc _ (List.getElem_mem hi')
    refine (hRL.ext hE25).ixStr hi' fun pa hc => LD_str hc ?_
    refine call (boundLine_ok hg5 hb5 hpb hz45 hO5 hS5 (by omega) (l := L[i]) (by omega)) ?_
    rintro ok6 w6 ⟨hC6, hA6⟩
    have hE26 : Ext w2 w6 := hC6.ext0 hE25 fun k hk => by
      have hk' : k = pb.block ∨ w4.heap.size ≤ k := hk
      omega
    have hz46 : w4.heap.size ≤ w6.heap.size := Nat.le_trans hz45 hC6.size
    have hdrop : ∀ C, RtB C → boTextS C = l → ∃ wd ns R, (itemsB C).drop i = (wd, ns) :: R ∧ R = (itemsB C).drop (i + 1) ∧ splitB 32 L[i] = wd :: ns.map numS ∧ Six ns := fun C hC hp => by
      have e := hOf C hC hp
      have hi2 : i < (itemsB C).length := by have := congrArg List.length e; rw [List.length_map] at this; omega
      have hk := hC.few.items _ (List.getElem_mem hi2)
      refine ⟨(itemsB C)[i].1, (itemsB C)[i].2, _, List.drop_eq_getElem_cons hi2, rfl, ?_, hk.six⟩
      have e2 : L[i] = itmS (itemsB C)[i] := by
        have : ((itemsB C).map itmS)[i]'(by rw [List.length_map]; exact hi2) = itmS (itemsB C)[i] := List.getElem_map ..
        rw [← this]; simp only [e]
      rw [e2]; exact hk.split
    refine cond_not (fun hf => no (hE2.trans hE26) fun C hC hp => ?_) (fun ht2 => ?_)
    · rcases hA6 with ⟨hA6, _⟩ | ⟨_, hA6⟩
      · rw [hA6] at hf; cases hf
      · obtain ⟨wd, ns, R, h1, _, h3, h4⟩ := hdrop C hC hp
        have h5 := hB5 C hC hp
        rw [h1] at h5
        obtain ⟨B', h6, _⟩ := bRun_step h5
        rw [hA6 wd ns h3 h4] at h6; cases h6
    rcases hA6 with ⟨_, wd, ns, B', h1, h2, h3, x', y', z', hb6, hO6⟩ | ⟨hA6, _⟩
    rotate_left
    · rw [hA6] at ht2; cases ht2
    refine IN_next (by omega) hi' ⟨hE26, hz46, x', y', z', B', hb6, hO6, hS5.step h3, fun C hC hp => ?_⟩
    obtain ⟨wd', ns', R, k1, k2, k3, k4⟩ := hdrop C hC hp
    obtain ⟨rfl, rfl⟩ := words_eq (h1.symm.trans k3) h2 k4
    have h5 := hB5 C hC hp
    rw [k1] at h5
    obtain ⟨B'', h6, h7⟩ := bRun_step h5
    rw [h3] at h6
    cases h6
    rw [← k2]; exact h7
  · have : i = L.length := by omega
    subst this
    have hqe : ∀ C, RtB C → boTextS C = l → B = C := by
      intro C hC hp
      have h1 := hB5 C hC hp
      have e := congrArg List.length (hOf C hC hp)
      rw [List.length_map] at e
      rw [List.drop_of_length_le (by omega)] at h1
      exact Option.some.inj h1
    refine LD_box3 hb5 ?_
    refine call (BoundText_ok hg5.pow hO5.bnd hO5.smallB) ?_
    rintro r okt w8 ⟨hA, hE8⟩
    have hE28 := hE25.trans hE8
    refine cond_not (fun hf => no (hE2.trans hE28) fun C hC hp => ?_) (fun ht3 => ?_)
    · have := hqe C hC hp
      subst this
      rw [hA.asked.2 ⟨hC.ok, hC.right⟩] at hf; cases hf
    obtain ⟨hk1, hk2⟩ := hA.asked.1 ht3
    rw [hA.yes ht3]
    refine cond_sne (fun hne => no (hE2.trans hE28) fun C hC hp => hne (hqe C hC hp ▸ hp)) (fun heq => ?_)
    refine LD_box3 (hb5.ext hE8) ?_
    refine ST_all ((hb1.ext hE2).ext hE28) (one3 x y z) rfl fun w9 hs9 hz9 hb9 => LD_box3 hb9 ?_
    have hO9 : OutB w4.heap.size w5.heap.size w9 x y z B := (hO5.ext hE8).keep fun b k1 k2 k3 => hs9.block b k3 fun he => by cases he; omega
    refine ⟨hs9.ext0 (hE02.trans hE28) fun k hk => by cases hk; omega, B, ?_, ⟨fun _ => ⟨⟨hk1, hk2⟩, heq⟩, fun h => by cases h⟩⟩
    have hzz := hE8.size_le
    exact (hO9.upTo (by omega)).low (by omega)

end Go.Proofs.YtaeledhbkdakcaaGreatDoor
end

section
/- Texts of rooted problems read: the reference's side; marks of the answer. -/
namespace Go.Proofs.YtaeledhbkdakcaaGreatDoor
open Go.GX Go.RowKit
set_option maxRecDepth 100000

end Go.Proofs.YtaeledhbkdakcaaGreatDoor
end

section
/- Texts of problems read: the reference's side. -/
namespace Go.Proofs.YtaeledhbkdakcaaGreatDoor
open Go.GX Go.RowKit
set_option maxRecDepth 100000

theorem PGood.itmOk {q : Prob} (h : PGood q) : ∀ x ∈ itemsP q, ItmOk x := h.items ⟨h.fewN h.small, h.fewE h.small⟩

theorem pr_item {p : Prob} {i : Nat} (hi : i < (itemsP p).length) :
    (i = 0 ∧ (itemsP p)[i] = (wProblem, [p.labels, p.degree])) ∨
    (∃ j, i = j + 1 ∧ ∃ h : j < p.nodes.length, (itemsP p)[i] = (wNode, p.nodes[j])) ∨
    (∃ j, i = j + 1 ∧ p.nodes.length ≤ j ∧ ∃ h : j - p.nodes.length < p.edges.length, (itemsP p)[i] = (wEdge, p.edges[j - p.nodes.length])) := by
  cases i with
  | zero => exact .inl ⟨rfl, rfl⟩
  | succ j =>
    have hl : (itemsP p).length = 1 + (p.nodes.length + p.edges.length) := by simp [itemsP]; omega
    have e : (itemsP p)[j + 1] = (p.nodes.map (fun r => (wNode, r)) ++ p.edges.map (fun r => (wEdge, r)))[j]'(by simp; omega) := rfl
    by_cases hj : j < p.nodes.length
    · refine .inr (.inl ⟨j, rfl, hj, ?_⟩)
      rw [e, List.getElem_append_left (by simpa using hj)]; simp
    · refine .inr (.inr ⟨j, rfl, by omega, by omega, ?_⟩)
      rw [e, List.getElem_append_right (by simpa using hj)]; simp

def pPre (p : Prob) : Nat → Prob
  | 0 => ⟨0, 0, [], []⟩
  | i + 1 => ⟨p.labels, p.degree, p.nodes.take i, p.edges.take (i - p.nodes.length)⟩

structure PrAns (L : List (List UInt8)) (q : Prob) (ok : Bool) : Prop where
  yes : ok = true → PGood q ∧ (itemsP q).map itmS = L
  no : ok = false → ∀ p, PGood p → (itemsP p).map itmS ≠ L

theorem sParseProblem_ok {w : World} {L : List (List UInt8)} (hno : ∀ x ∈ L, (10 : UInt8) ∉ x) (hL : L.length ≤ 3000) (hLl : ∀ x ∈ L, x.length ≤ 1048576) :
    Calls Tryz.prog F.s_ParseProblem #[.string (mkS (linesS L))] w (Ret [.agg [.int .i64, .int .i64, .sl, .sl], .at .bool] fun (a b : Int) (c d : Sl) (ok : Bool) w' => Ext w w' ∧ ∃ q own, RecB w.heap.size w'.heap.size own 0 w' ⟨a, b, c, d⟩ q ∧ PrAns L q ok) := by
  refine C_s_ParseProblem ?_
  unfold V_s_ParseProblem
  refine NEW_intro fun px w1 hp1 hs1 hE1 hb1 => ?_
  have hzx := hb1.lt
  have no : ∀ {w' : World}, Ext w1 w' → (∀ p, PGood p → (itemsP p).map itmS ≠ L) → GX.ST px 0 [.int .i64 0, .int .i64 0, .slice none 0 0, .slice none 0 0] w' fun w'' => LD [.int .i64, .int .i64, .sl, .sl] px w'' fun (a b : Int) (c d : Sl) => Ext w w'' ∧ ∃ q own, RecB w.heap.size w''.heap.size own 0 w'' ⟨a, b, c, d⟩ q ∧ PrAns L q false := by
    intro w' hE hn
    refine ST_all (vs := [.int .i64 0, .int .i64 0, (⟨none, 0, 0⟩ : Sl).v, (⟨none, 0, 0⟩ : Sl).v]) (hb1.ext hE) (one4p 0 0 ⟨none, 0, 0⟩ ⟨none, 0, 0⟩) rfl fun w'' hs hz hb => LD_iiss hb ?_
    exact ⟨hs.ext0 (hE1.trans hE) fun k hk => by cases hk; omega, ⟨0, 0, [], []⟩, fun _ => 0, ⟨rfl, rfl, by show I64 0; unfold I64; omega, by show I64 0; unfold I64; omega, InB.nil _ _ _ _ _, InB.nil _ _ _ _ _⟩, ⟨(fun h => by cases h), fun _ => hn⟩⟩
  have hlen := linesS_len (n := 1048577) (L := L) fun x hx => by have := hLl x hx; omega
  refine call (l1Split_ok (l := linesS L) (c := 10) (by omega)) ?_
  rintro sL w2 ⟨hE2, hOL⟩
  have hRL0 := hOL.rep (strs_ok _)
  rw [linesS_split hno] at hOL hRL0
  refine NEW_intro fun po w4 hp4 hs4 hE4 hb4 => ?_
  have hpo : po.block < w4.heap.size := hb4.lt
  have hz2 := hE2.size_le
  have hE02 := hE1.trans hE2
  have hsl : sL.len = L.length + 1 := by have := hOL.1; simpa using this
  have ew : IntKind.i64.wrap ((sL.len : Int) - 1) = ((L.length : Nat) : Int) := by rw [hsl, wrap_of (by omega) (by omega)]; omega
  rw [ew]
  refine SlR.take hRL0 (i := L.length) (by simp) rfl fun sT hsT => ?_
  have hRL4 : R w2 sT (L.map mkS) := by
    have := hsT.any
    rw [← List.map_take, List.take_left' rfl] at this
    exact this
  rw [hRL4.len, List.length_map]
  refine ⟨IN L.length fun i w' => Ext w2 w' ∧ w4.heap.size ≤ w'.heap.size ∧ ∃ (q : Prob) (z u : Sl) (own : Nat → Nat), Box w' po T.t_i_Problem [.int .i64 q.labels, .int .i64 q.degree, z.v, u.v] ∧ RecB w4.heap.size w'.heap.size own 0 w' ⟨q.labels, q.degree, z, u⟩ q ∧ q.nodes.length ≤ i ∧ q.edges.length ≤ i ∧ ∀ p, PGood p → (itemsP p).map itmS = L → q = pPre p i,
    MN L.length, IN_zero ⟨hE4, Nat.le_refl _, ⟨0, 0, [], []⟩, ⟨none, 0, 0⟩, ⟨none, 0, 0⟩, fun _ => 0, hb4, ⟨rfl, rfl, by show I64 0; unfold I64; omega, by show I64 0; unfold I64; omega, InB.nil _ _ _ _ _, InB.nil _ _ _ _ _⟩, by simp, by simp, fun p _ _ => rfl⟩, ?_⟩
  rintro _ w5 ⟨i, rfl, hi, hE25, hz45, q, z, u, own, hb5, hR5, hni, hei, hq⟩
  intros
  refine cond_dec (fun hlt => ?_) (fun hge => ?_)
  · have hi' : i < L.length := by omega
    have hLi := hLl _ (List.getElem_mem hi')
    refine (hRL4.ext hE25).ixStr hi' fun pa hc => LD_str hc ?_
    rw [mk_lit [112, 114, 111, 98, 108, 101, 109]]
    refine call (l1Split_ok (l := L[i]) (c := 32) (by omega)) ?_
    rintro sw w6 ⟨hE6, hOw⟩
    have hRw := (hOw.rep (strs_ok _)).any
    obtain ⟨wd, ws, hws⟩ := List.exists_cons_of_ne_nil (splitB_ne 32 L[i])
    have hwl := splitB_len 32 L[i]
    have hwm := fun y (hy : y ∈ splitB 32 L[i]) => (splitB_mem hy).2
    have hof : ∀ p, PGood p → (itemsP p).map itmS = L → ∃ hi2 : i < (itemsP p).length, wd = (itemsP p)[i].1 ∧ ws = (itemsP p)[i].2.map numS ∧ Six (itemsP p)[i].2 := by
      intro p hp e
      have hi2 : i < (itemsP p).length := by have := congrArg List.length e; rw [List.length_map] at this; omega
      have hk := hp.itmOk _ (List.getElem_mem hi2)
      have e2 : L[i] = itmS (itemsP p)[i] := by
        have : ((itemsP p).map itmS)[i]'(by rw [List.length_map]; exact hi2) = itmS (itemsP p)[i] := List.getElem_map ..
        rw [← this]; simp only [e]
      have e3 : wd :: ws = (itemsP p)[i].1 :: (itemsP p)[i].2.map numS := by rw [← hws, e2]; exact hk.split
      exact ⟨hi2, (List.cons.inj e3).1, (List.cons.inj e3).2, hk.six⟩
    rw [hws] at hRw hwl hwm
    have hRw' : R w6 sw (mkS wd :: ws.map mkS) := hRw
    refine slr_drop (i := 1) hRw' (by simp) rfl fun st hst => ?_
    have hst' : R w6 st (ws.map mkS) := by simpa using hst.any
    simp only [List.length_cons] at hwl
    refine call (maNumbers_ok hst' (by omega) fun y hy => by have := hwm y (by simp [hy]); omega) ?_
    rintro sn ok2 w7 ⟨hE7, hA⟩
    have hE57 := hE6.trans hE7
    have hE27 := hE25.trans hE57
    have hz6 := hE6.size_le
    have hz7 := hE7.size_le
    have hb7 := hb5.ext hE57
    have hR7 := hR5.ext hE57
    have hget0 : ∀ {K : Addr → Prop}, (∀ pa, w7.cell? pa = some (.string (mkS wd)) → K pa) → IX sw 0 1 K := fun hk => (SlR.ixStr (L := wd :: ws) (i := 0) (hRw'.ext hE7) (by simp)) hk
    have hA0 : ok2 = false → ∀ p, PGood p → (itemsP p).map itmS ≠ L := by
      intro hf p hp1 hp2
      rcases hA with ⟨hA, _⟩ | ⟨_, hA⟩
      · rw [hA] at hf; cases hf
      · obtain ⟨hi2, _, h2, h3⟩ := hof p hp1 hp2
        exact hA _ (h2 ▸ stars_of h3)
    -- which numbers
    have hof2 : ∀ ns, StarsOf ws ns → ∀ p, PGood p → (itemsP p).map itmS = L → ∃ hi2 : i < (itemsP p).length, (itemsP p)[i] = (wd, ns) := by
      intro ns hns p hp1 hp2
      obtain ⟨hi2, h1, h2, h3⟩ := hof p hp1 hp2
      exact ⟨hi2, Prod.ext h1.symm ((hns.unique (h2 ▸ stars_of h3)).symm)⟩
    have hof3 : ∀ ns, StarsOf ws ns → ∀ p, PGood p → (itemsP p).map itmS = L → (i = 0 ∧ wd = wProblem ∧ ns = [p.labels, p.degree]) ∨ (∃ j, i = j + 1 ∧ ∃ h : j < p.nodes.length, wd = wNode ∧ ns = p.nodes[j]) ∨ (∃ j, i = j + 1 ∧ p.nodes.length ≤ j ∧ ∃ h : j - p.nodes.length < p.edges.length, wd = wEdge ∧ ns = p.edges[j - p.nodes.length]) := by
      intro ns hns p hp1 hp2
      obtain ⟨hi2, h1⟩ := hof2 ns hns p hp1 hp2
      rcases pr_item hi2 with ⟨h2, h3⟩ | ⟨j, h2, hj, h3⟩ | ⟨j, h2, hj1, hj, h3⟩
      · rw [h1] at h3; exact .inl ⟨h2, congrArg Prod.fst h3, congrArg Prod.snd h3⟩
      · rw [h1] at h3; exact .inr (.inl ⟨j, h2, hj, congrArg Prod.fst h3, congrArg Prod.snd h3⟩)
      · rw [h1] at h3; exact .inr (.inr ⟨j, h2, hj1, hj, congrArg Prod.fst h3, congrArg Prod.snd h3⟩)
    -- a row more
    have rowC : (∀ ns, StarsOf ws ns → wd = wProblem → ∀ p, PGood p → (itemsP p).map itmS ≠ L) → V_s_ParseProblem_k4 (IN L.length fun i w' => Ext w2 w' ∧ w4.heap.size ≤ w'.heap.size ∧ ∃ (q : Prob) (z u : Sl) (own : Nat → Nat), Box w' po T.t_i_Problem [.int .i64 q.labels, .int .i64 q.degree, z.v, u.v] ∧ RecB w4.heap.size w'.heap.size own 0 w' ⟨q.labels, q.degree, z, u⟩ q ∧ q.nodes.length ≤ i ∧ q.edges.length ≤ i ∧ ∀ p, PGood p → (itemsP p).map itmS = L → q = pPre p i)
        (MN L.length) (i : Int) w5 (fun (a b : Int) (c d : Sl) (ok : Bool) w' => Ext w w' ∧ ∃ q own, RecB w.heap.size w'.heap.size own 0 w' ⟨a, b, c, d⟩ q ∧ PrAns L q ok) px po sw sn ok2 false w7 := by
      intro hnr
      unfold V_s_ParseProblem_k4
      rw [mk_lit [110, 111, 100, 101]]
      refine cond_f rfl ?_
      refine cond_b (fun ht2 => ?_) (fun hf2 => ?_)
      rotate_left
      · unfold V_s_ParseProblem_k5
        refine cond_f rfl (cond_f (by simpa using hf2) (no (hE2.trans hE27) (hA0 hf2)))
      rcases hA with ⟨_, ns, hns, hOn⟩ | ⟨hA, _⟩
      rotate_left
      · rw [hA] at ht2; cases ht2
      have hn64 : ∀ y ∈ ns, I64 y := fun y hy => by have := hns.2 y hy; show I64 _; unfold I64; omega
      have hnl : ns.length = ws.length := by rw [← hns.1, List.length_map]
      refine hget0 fun pa hc => LD_str hc ?_
      -- the row is stored
      by_cases hn1 : wd = wNode
      · have eb : ((mkS wd).toList == (mkS [110, 111, 100, 101]).toList) = true := by
          rw [hn1]; exact beq_self_eq_true _
        rw [eb]
        unfold V_s_ParseProblem_k5
        refine cond_t rfl ?_
        refine LD_bs2 hb7 ?_
        refine hR7.nodes.push hz45 (by omega) (b1 := w6.heap.size) (by omega) hOn hn64 (by omega) (by omega) fun s' w8 hI8 hC8 => ?_
        have hb8 := hb7.chg hC8 fun hD => by have := hD.2.1; omega
        have hE28 : Ext w2 w8 := hC8.ext0 hE27 fun k hk => by have := hk.2.1; omega
        refine ST_boxG hb8 (i := 2) (by simp) rfl fun w9 hC9 hz9 hb9 => ?_
        have hE29 : Ext w2 w9 := hC9.ext0 hE28 fun k hk => by have hk' : k = po.block := hk; omega
        have hz8 := hC8.size
        unfold V_s_ParseProblem_k3
        refine IN_next (by omega) hi' ⟨hE29, by omega, ⟨q.labels, q.degree, q.nodes ++ [ns], q.edges⟩, s', u, upO own w5.heap.size (2 * 0 + 3), hb9, ?_, by simp only [List.length_append, List.length_singleton]; omega, by show q.edges.length ≤ _; omega, ?_⟩
        · have hn9 := hI8.away hC9 fun b _ k1 _ hD => by have hD' : b = po.block := hD; omega
          have he9 := (hR7.edges.move (t := w8.heap.size) (k := 2 * 0 + 3) hC8 (by omega) (by omega)).away hC9 fun b _ k1 _ hD => by have hD' : b = po.block := hD; omega
          exact ⟨rfl, rfl, hR7.lab, hR7.deg, hz9 ▸ hn9, hz9 ▸ he9⟩
        · intro p hp1 hp2
          rcases hof3 ns hns p hp1 hp2 with ⟨_, h3, _⟩ | ⟨j, rfl, hj, _, h4⟩ | ⟨j, rfl, _, hj, h3, _⟩
          · exact absurd (hn1.symm.trans h3) (by decide)
          · rw [hq p hp1 hp2, h4]
            show Prob.mk p.labels p.degree (p.nodes.take j ++ [p.nodes[j]]) (p.edges.take (j - p.nodes.length)) = Prob.mk p.labels p.degree (p.nodes.take (j + 1)) (p.edges.take (j + 1 - p.nodes.length))
            have e1 : j - p.nodes.length = 0 := by omega
            have e2 : j + 1 - p.nodes.length = 0 := by omega
            rw [List.take_succ_eq_append_getElem hj, e1, e2]
          · exact absurd (hn1.symm.trans h3) (by decide)
      · have eb : ((mkS wd).toList == (mkS [110, 111, 100, 101]).toList) = false := by
          rw [beq_eq_false_iff_ne]
          intro he
          rw [mkS_toList, mkS_toList] at he
          exact hn1 he
        rw [eb]
        unfold V_s_ParseProblem_k5
        refine cond_f rfl ?_
        refine cond_t (by simpa using ht2) ?_
        refine hget0 fun pa hc => LD_str hc ?_
        rw [mk_lit [101, 100, 103, 101]]
        refine cond_seq (a := wd) (b := wEdge) (fun hn2 => ?_) (fun hn2 => no (hE2.trans hE27) fun p hp1 hp2 => ?_)
        rotate_left
        · rcases hof3 ns hns p hp1 hp2 with ⟨_, h3, _⟩ | ⟨_, _, _, h3, _⟩ | ⟨_, _, _, _, h3, _⟩
          · exact hnr ns hns h3 p hp1 hp2
          · exact hn1 h3
          · exact hn2 h3
        refine LD_bs3 hb7 ?_
        refine hR7.edges.push hz45 (by omega) (b1 := w6.heap.size) (by omega) hOn hn64 (by omega) (by omega) fun s' w8 hI8 hC8 => ?_
        have hb8 := hb7.chg hC8 fun hD => by have := hD.2.1; omega
        have hE28 : Ext w2 w8 := hC8.ext0 hE27 fun k hk => by have := hk.2.1; omega
        refine ST_boxG hb8 (i := 3) (by simp) rfl fun w9 hC9 hz9 hb9 => ?_
        have hE29 : Ext w2 w9 := hC9.ext0 hE28 fun k hk => by have hk' : k = po.block := hk; omega
        have hz8 := hC8.size
        unfold V_s_ParseProblem_k3
        refine IN_next (by omega) hi' ⟨hE29, by omega, ⟨q.labels, q.degree, q.nodes, q.edges ++ [ns]⟩, z, s', upO own w5.heap.size (2 * 0 + 4), hb9, ?_, by show q.nodes.length ≤ _; omega, by simp only [List.length_append, List.length_singleton]; omega, ?_⟩
        · have hn9 := hI8.away hC9 fun b _ k1 _ hD => by have hD' : b = po.block := hD; omega
          have he9 := (hR7.nodes.move (t := w8.heap.size) (k := 2 * 0 + 4) hC8 (by omega) (by omega)).away hC9 fun b _ k1 _ hD => by have hD' : b = po.block := hD; omega
          exact ⟨rfl, rfl, hR7.lab, hR7.deg, hz9 ▸ he9, hz9 ▸ hn9⟩
        · intro p hp1 hp2
          rcases hof3 ns hns p hp1 hp2 with ⟨_, h3, _⟩ | ⟨j, rfl, hj, h3, _⟩ | ⟨j, rfl, hj1, hj, _, h4⟩
          · exact absurd (hn2.symm.trans h3) (by decide)
          · exact absurd (hn2.symm.trans h3) (by decide)
          · rw [hq p hp1 hp2, h4]
            show Prob.mk p.labels p.degree (p.nodes.take j) (p.edges.take (j - p.nodes.length) ++ [p.edges[j - p.nodes.length]]) = Prob.mk p.labels p.degree (p.nodes.take (j + 1)) (p.edges.take (j + 1 - p.nodes.length))
            have e1 : j + 1 - p.nodes.length = (j - p.nodes.length) + 1 := by omega
            have e3 : p.nodes.take j = p.nodes := List.take_of_length_le hj1
            have e4 : p.nodes.take (j + 1) = p.nodes := List.take_of_length_le (by omega)
            rw [e1, List.take_succ_eq_append_getElem hj, e3, e4]
    refine cond_b (fun ht2 => ?_) (fun hf2 => rowC fun ns hns _ => ?_)
    rotate_left
    · exact hA0 hf2
    have hA' := hA
    rcases hA' with ⟨_, ns, hns, hOn⟩ | ⟨hA', _⟩
    rotate_left
    · rw [hA'] at ht2; cases ht2
    have hn64 : ∀ y ∈ ns, I64 y := fun y hy => by have := hns.2 y hy; show I64 _; unfold I64; omega
    have bad : (i = 0 → wd = wProblem → (ns.length : Int) ≠ 2) → ∀ ms, StarsOf ws ms → wd = wProblem → ∀ p, PGood p → (itemsP p).map itmS ≠ L := by
      intro h1 ms hms hw p hp1 hp2
      obtain rfl := hms.unique hns
      rcases hof3 _ hms p hp1 hp2 with ⟨h2, h3, h4⟩ | ⟨_, _, _, h3, _⟩ | ⟨_, _, _, _, h3, _⟩
      · exact h1 h2 h3 (by rw [h4]; rfl)
      · exact absurd (hw.symm.trans h3) (by decide)
      · exact absurd (hw.symm.trans h3) (by decide)
    refine cond_eq (fun h0 => ?_) (fun h0 => rowC (bad fun h1 => absurd h1 (by omega)))
    refine hget0 fun pa hc => LD_str hc ?_
    refine cond_seq (a := wd) (b := wProblem) (fun heq => ?_) (fun hne => rowC (bad fun _ h => absurd h hne))
    rw [hOn.1]
    by_cases h2 : (ns.length : Int) = 2
    rotate_left
    · rw [beq_eq_false_iff_ne.2 h2]
      exact rowC (bad fun _ _ => h2)
    rw [beq_iff_eq.2 h2]
    obtain ⟨n0, n1, rfl⟩ : ∃ a b, ns = [a, b] := by
      match ns, h2 with
      | [a, b], _ => exact ⟨a, b, rfl⟩
    unfold V_s_ParseProblem_k4
    refine cond_t rfl ?_
    have hO7 := hOn.rep hn64
    refine slr_ixW hO7 (i := 0) (by simp) fun p0 hp0 hc0 => LD_int hc0 ?_
    refine ST_boxG hb7 (i := 0) (by simp) rfl fun w11 hC11 hz11 hb11 => ?_
    have hO11 := hO7.chg hC11 fun b hb _ he => by have he' : b = po.block := he; omega
    refine slr_ixW hO11 (i := 1) (by simp) fun p1 hp1 hc1 => LD_int hc1 ?_
    refine ST_boxG hb11 (i := 1) (by simp) rfl fun w12 hC12 hz12 hb12 => ?_
    have hE212 : Ext w2 w12 := (hC11.trans hC12).ext0 hE27 fun k hk => by have hk' : k = po.block := hk; omega
    have hR12 := hR7.away (hC11.trans hC12) fun b _ k1 _ hD => by have hD' : b = po.block := hD; omega
    have hs0 := hns.2 n0 (by simp)
    have hs1 := hns.2 n1 (by simp)
    unfold V_s_ParseProblem_k3
    refine IN_next (by omega) hi' ⟨hE212, by omega, ⟨n0, n1, q.nodes, q.edges⟩, z, u, own, hb12, ⟨rfl, rfl, hn64 n0 (by simp), hn64 n1 (by simp), hR12.nodes.upTo (by omega), hR12.edges.upTo (by omega)⟩, by show q.nodes.length ≤ _; omega, by show q.edges.length ≤ _; omega, ?_⟩
    intro p hp1 hp2
    rcases hof3 _ hns p hp1 hp2 with ⟨rfl, _, h4⟩ | ⟨j, _, _, h3, _⟩ | ⟨j, _, _, _, h3, _⟩
    · rw [hq p hp1 hp2]
      simp only [List.cons.injEq, and_true] at h4
      obtain ⟨rfl, rfl⟩ := h4
      show Prob.mk _ _ _ _ = Prob.mk _ _ _ _
      simp [pPre]
    · exact absurd (heq.symm.trans h3) (by decide)
    · exact absurd (heq.symm.trans h3) (by decide)
  · have : i = L.length := by omega
    subst this
    have hqe : ∀ p, PGood p → (itemsP p).map itmS = L → q = p := by
      intro p hp1 hp2
      rw [hq p hp1 hp2]
      have e : L.length = p.nodes.length + p.edges.length + 1 := by rw [← hp2]; simp [itemsP]
      rw [e]
      show Prob.mk _ _ _ _ = _
      rw [List.take_of_length_le (by omega), List.take_of_length_le (by omega)]
    have hP5 : RProb w5 z u q := ⟨hR5.lab, hR5.deg, hR5.nodes.rep, hR5.edges.rep⟩
    refine LD_iiss hb5 ?_
    refine call (prGood_ok hP5) ?_
    rintro b w6 ⟨hb, hE6⟩
    refine cond_not (fun hf => no (hE2.trans (hE25.trans hE6)) fun p hp1 hp2 => ?_) (fun ht3 => ?_)
    · rw [hb.2 (hqe p hp1 hp2 ▸ hp1)] at hf; cases hf
    have hgd := hb.1 ht3
    refine LD_iiss (hb5.ext hE6) ?_
    refine call (prText_ok (hP5.ext hE6) hgd (hgd.fewN hgd.small) (hgd.fewE hgd.small)) ?_
    rintro _ w7 ⟨rfl, hE7⟩
    have hE57 := hE6.trans hE7
    have hE27 := hE25.trans hE57
    refine cond_sne (fun hne => no (hE2.trans hE27) fun p hp1 hp2 => hne ?_) (fun heq => ?_)
    · rw [hqe p hp1 hp2, prText_items, hp2]
    refine LD_iiss (hb5.ext hE57) ?_
    have hbx := (hb1.ext hE2).ext hE27
    refine ST_all hbx (one4p q.labels q.degree z u) rfl fun w8 hs8 hz8 hb8 => LD_iiss hb8 ?_
    have hR8 := (hR5.ext hE57).keep (w' := w8) fun k _ hk _ hk2 => hs8.block k hk2 fun he => by cases he; omega
    have hzz := hE57.size_le
    refine ⟨hs8.ext0 (hE02.trans hE27) fun k hk => by cases hk; omega, q, own, ⟨rfl, rfl, hR8.lab, hR8.deg, (hR8.nodes.upTo (by omega)).low (by omega), (hR8.edges.upTo (by omega)).low (by omega)⟩, ⟨fun _ => ⟨hgd, ?_⟩, fun h => by cases h⟩⟩
    rw [prText_items] at heq
    exact lines_inj (fun x hx => by
      obtain ⟨y, hy, rfl⟩ := List.mem_map.1 hx
      exact (hgd.itmOk y hy).no10) hno heq

end Go.Proofs.YtaeledhbkdakcaaGreatDoor
end

section
/- Texts of bounds read: the reference's side. -/
namespace Go.Proofs.YtaeledhbkdakcaaGreatDoor
open Go.GX Go.RowKit
set_option maxRecDepth 100000

theorem mkS_beq (a b : List UInt8) : ((mkS a).toList == (mkS b).toList) = decide (a = b) := by
  rw [mkS_toList, mkS_toList]
  by_cases h : a = b
  · rw [decide_eq_true h]; exact beq_iff_eq.2 h
  · rw [decide_eq_false h]; exact beq_eq_false_iff_ne.2 h
theorem num_uniq {l : List UInt8} {x y : Int} (h : NumOf l x) (h' : NumOf l y) : x = y := by
  have h1 := stars_one (.inl h)
  have h2 := stars_one (.inl h')
  have s1 : StarsOf [l] [x] := ⟨by simp [h1.1], by intro a ha; rw [List.mem_singleton.1 ha]; exact h1.2⟩
  have s2 : StarsOf [l] [y] := ⟨by simp [h2.1], by intro a ha; rw [List.mem_singleton.1 ha]; exact h2.2⟩
  have := s1.unique s2
  simpa using this

theorem boNumbers_ok {w : World} {l : List UInt8} (hl : l.length ≤ 1048576) :
    Calls Tryz.prog F.s_boNumbers #[.string (mkS l)] w (Ret [.at .sl] fun (r : Sl) w' => Ext w w' ∧ ∃ ns, OwnL w' w.heap.size T.t_int r ns ∧ (∀ y ∈ ns, I64 y) ∧ ns.length ≤ 1048576 ∧ ∀ wd ms, splitB 32 l = wd :: ms.map numS → Six ms → (∀ y ∈ ms, 0 ≤ y) → ns = ms) := by
  refine C_s_boNumbers ?_
  unfold V_s_boNumbers
  refine call (l1Split_ok (l := l) (c := 32) (by omega)) ?_
  rintro sw w1 ⟨hE1, hOw⟩
  have hRw := (hOw.rep (strs_ok _)).any
  obtain ⟨wd, ws, hws⟩ := List.exists_cons_of_ne_nil (splitB_ne 32 l)
  have hwl := splitB_len 32 l
  have hwm := fun y (hy : y ∈ splitB 32 l) => (splitB_mem hy).2
  rw [hws] at hRw hwl hwm
  have hRw' : R w1 sw (mkS wd :: ws.map mkS) := hRw
  refine slr_drop (i := 1) hRw' (by simp) rfl fun st hst => ?_
  have hst' : R w1 st (ws.map mkS) := by simpa using hst.any
  simp only [List.length_cons] at hwl
  rw [hst'.len, List.length_map]
  refine ⟨IN2 ws.length fun i (out : Sl) w' => Ext w1 w' ∧ ∃ ns, OwnL w' w1.heap.size T.t_int out ns ∧ (∀ y ∈ ns, I64 y) ∧ ns.length = i ∧ ∀ ms, ws = ms.map numS → Six ms → (∀ y ∈ ms, 0 ≤ y) → ns = ms.take i, MN2 ws.length, IN2_zero ⟨Ext.refl _, [], OwnL.nil _ _ _, by simp, rfl, by simp⟩, ?_⟩
  rintro out _ w2 ⟨i, rfl, hi, hE2, ns, hO2, hn64, hnl, hms⟩
  intros
  have hz2 := hE2.size_le
  have hz1 := hE1.size_le
  refine cond_dec (fun hlt => ?_) (fun hge => ?_)
  rotate_left
  · have : i = ws.length := by omega
    subst this
    refine ⟨hE1.trans hE2, ns, hO2.low hz1, hn64, by omega, fun wd' ms h1 h2 h3 => ?_⟩
    rw [hws] at h1
    have e := (List.cons.inj h1).2
    have := hms ms e h2 h3
    rw [e, List.length_map, List.take_length] at this
    exact this
  have hi' : i < ws.length := by omega
  refine (hst'.ext hE2).ixStr hi' fun q hc => LD_str hc ?_
  refine call (l1Read_ok (by have := hwm ws[i] (by simp [List.getElem_mem hi']); omega)) ?_
  rintro x w3 ⟨rfl, hx⟩
  change Int at x
  have hx64 : I64 x := by
    rcases hx with hx | hx
    · have := hx.range; unfold I64; omega
    · have := hx.1; show I64 x; unfold I64; omega
  refine RUN_lit1 (α := Int) slt_int x rfl (by decide) fun z w4 hE4 hO4 => ?_
  have hz4 := hE4.size_le
  have hOb := hO2.ext hE4
  refine RUN_append (α := Int) slt_int hOb (by omega) (hO4.rep (by intro a ha; rw [List.mem_singleton.1 ha]; exact hx64)).any (by simp; omega) (by simp [maxLen]; omega) fun r w5 hO5 hs5 => ?_
  refine IN2_next (by omega) hi' ⟨hs5.ext0 (hE2.trans hE4) fun k hk => (hOb.blk k hk).1, ns ++ [x], hO5, ?_, by simp [hnl], fun ms e h2 h3 => ?_⟩
  · intro a ha
    rcases List.mem_append.1 ha with ha | ha
    · exact hn64 a ha
    · rw [List.mem_singleton.1 ha]; exact hx64
  · have him : i < ms.length := by rw [e, List.length_map] at hi'; exact hi'
    rw [hms ms e h2 h3, List.take_succ_eq_append_getElem him]
    congr 2
    have hS : StarsOf ws ms := ⟨e.symm, h2⟩
    have eg : ms.getD i 0 = ms[i] := by rw [List.getD_eq_getElem?_getD, List.getElem?_eq_getElem him]; rfl
    have hk := stars_take hS hi'
    rw [eg] at hk
    rcases hk with hk | hk
    · rcases hx with hx | hx
      · exact num_uniq hx hk
      · exact absurd hk (hx.2 _)
    · have := h3 _ (List.getElem_mem him); omega

/-! ### Steps of the run -/

theorem sRun_word {B C : Bnd} {T : List Itm} {x : Itm} {R : List Itm} (h : sRun B T (x :: R) = some C) : x.1 = wProblem ∨ x.1 = wMap ∨ x.1 = wNot ∨ x.1 = wNode ∨ x.1 = wEdge := by
  rw [sRun] at h
  by_cases h1 : x.1 = wProblem
  · exact .inl h1
  by_cases h2 : x.1 = wMap
  · exact .inr (.inl h2)
  by_cases h3 : x.1 = wNot
  · exact .inr (.inr (.inl h3))
  by_cases h4 : x.1 = wNode ∨ x.1 = wEdge
  · exact .inr (.inr (.inr h4))
  rw [if_neg h1, if_neg h2, if_neg h3, if_neg h4] at h
  cases h
theorem sRun_flush {B C : Bnd} {T R : List Itm} (hR : CutI R) (h : sRun B T R = some C) : ∃ B1, flush B T = some B1 ∧ sRun B1 [] R = some C := by
  have key : ∀ (f : Bnd → Option Bnd), (flush B T).bind f = some C → ∃ B1, flush B T = some B1 ∧ f B1 = some C := fun f h => by
    cases hf : flush B T with
    | none => rw [hf] at h; cases h
    | some B1 => rw [hf] at h; exact ⟨B1, rfl, h⟩
  rcases hR with rfl | ⟨x, R', rfl, hx⟩
  · rw [sRun] at h
    exact ⟨C, h, by rw [sRun, flush_nil]⟩
  · rw [sRun] at h
    rcases hx with hx | hx | hx
    · rw [if_pos hx] at h
      obtain ⟨B1, h1, h2⟩ := key _ h
      refine ⟨B1, h1, ?_⟩
      rw [sRun, if_pos hx, flush_nil]; exact h2
    · have d1 : ¬ x.1 = wProblem := by rw [hx]; decide
      rw [if_neg d1, if_pos hx] at h
      obtain ⟨B1, h1, h2⟩ := key _ h
      refine ⟨B1, h1, ?_⟩
      rw [sRun, if_neg d1, if_pos hx, flush_nil]; exact h2
    · have d1 : ¬ x.1 = wProblem := by rw [hx]; decide
      have d2 : ¬ x.1 = wMap := by rw [hx]; decide
      rw [if_neg d1, if_neg d2, if_pos hx] at h
      obtain ⟨B1, h1, h2⟩ := key _ h
      refine ⟨B1, h1, ?_⟩
      rw [sRun, if_neg d1, if_neg d2, if_pos hx, flush_nil]; exact h2
theorem flush_some {B B1 : Bnd} {T : List Itm} (hT : T ≠ []) (h : flush B T = some B1) : ∃ q, PGood q ∧ itemsP q = T ∧ B1 = ⟨B.ps ++ [q], B.maps, B.pairs⟩ := by
  unfold flush at h
  rw [if_neg hT] at h
  cases hp : pickP T with
  | none => rw [hp] at h; cases h
  | some q =>
    rw [hp] at h
    obtain ⟨h1, h2⟩ := pickP_some hp
    exact ⟨q, h1, h2, (Option.some.inj h).symm⟩
theorem sRun_nilP {B C : Bnd} {ns : List Int} {R : List Itm} (h : sRun B [] ((wProblem, ns) :: R) = some C) : sRun B [(wProblem, ns)] R = some C := by
  rw [sRun, if_pos rfl, flush_nil] at h; exact h
theorem sRun_nilM {B C : Bnd} {ns : List Int} {R : List Itm} (h : sRun B [] ((wMap, ns) :: R) = some C) : sRun ⟨B.ps, B.maps ++ [ns], B.pairs⟩ [] R = some C := by
  rw [sRun, if_neg (by decide : ¬ wMap = wProblem), if_pos rfl, flush_nil] at h; exact h
theorem sRun_nilN {B C : Bnd} {ns : List Int} {R : List Itm} (h : sRun B [] ((wNot, ns) :: R) = some C) : sRun ⟨B.ps, B.maps, B.pairs ++ [ns]⟩ [] R = some C := by
  rw [sRun, if_neg (by decide : ¬ wNot = wProblem), if_neg (by decide : ¬ wNot = wMap), if_pos rfl, flush_nil] at h; exact h

theorem BFew.posI {B : Bnd} (h : BFew B) : ∀ x ∈ itemsB B, (x.1 = wMap ∨ x.1 = wNot) → ∀ y ∈ x.2, 0 ≤ y := by
  intro x hx hw
  rcases List.mem_append.1 hx with hx | hx
  · obtain ⟨q, hq, hx⟩ := List.mem_flatMap.1 hx
    rcases List.mem_cons.1 hx with rfl | hx
    · rcases hw with hw | hw
      · exact absurd hw (by decide : ¬ wProblem = wMap)
      · exact absurd hw (by decide : ¬ wProblem = wNot)
    · rcases List.mem_append.1 hx with hx | hx
      · obtain ⟨r, hr, rfl⟩ := List.mem_map.1 hx
        rcases hw with hw | hw
        · exact absurd hw (by decide : ¬ wNode = wMap)
        · exact absurd hw (by decide : ¬ wNode = wNot)
      · obtain ⟨r, hr, rfl⟩ := List.mem_map.1 hx
        rcases hw with hw | hw
        · exact absurd hw (by decide : ¬ wEdge = wMap)
        · exact absurd hw (by decide : ¬ wEdge = wNot)
  · rcases List.mem_append.1 hx with hx | hx
    · obtain ⟨r, hr, rfl⟩ := List.mem_map.1 hx
      exact h.maps.2 r hr
    · obtain ⟨r, hr, rfl⟩ := List.mem_map.1 hx
      exact h.pairs.2 r hr

end Go.Proofs.YtaeledhbkdakcaaGreatDoor
end

section
/- Texts of bounds read: the reference's loop. -/
namespace Go.Proofs.YtaeledhbkdakcaaGreatDoor
open Go.GX Go.RowKit
set_option maxRecDepth 100000

structure PbNum (i : Nat) (B : Bnd) : Prop where
  ps : B.ps.length ≤ i
  maps : B.maps.length ≤ i
  pairs : B.pairs.length ≤ i

/-- What the reference keeps between two lines. -/
def PbInv (w4 : World) (px4 : Addr) (N : Nat) (l : List UInt8) (i : Nat) (t : ByteArray) (w' : World) : Prop :=
  Chg w4 w' (fun b => b = px4.block ∨ w4.heap.size ≤ b) ∧ ∃ (x y z : Sl) (B : Bnd) (TL : List (List UInt8)), t = mkS (linesS TL) ∧ TL.length ≤ i ∧ (∀ a ∈ TL, (10 : UInt8) ∉ a ∧ a.length ≤ 1048576) ∧ Box w' px4 T.t_i_Bound [x.v, y.v, z.v] ∧ OutB w4.heap.size w'.heap.size w' x y z B ∧ PbNum i B ∧
    ∀ C, RtB C → boTextS C = l → ∃ U, U.map itmS = TL ∧ sRun B U ((itemsB C).drop i) = some C ∧ (i = N → TL = [])

/-- What a line of a good text is. -/
def LnOk (C : Bnd) (N i : Nat) (Li wd : List UInt8) : Prop :=
  (∃ ns R, (itemsB C).drop i = (wd, ns) :: R ∧ R = (itemsB C).drop (i + 1) ∧ Li = itmS (wd, ns) ∧ ItmOk (wd, ns) ∧ ((wd = wMap ∨ wd = wNot) → ∀ y ∈ ns, 0 ≤ y) ∧ i + 1 ≠ N) ∨
  ((itemsB C).drop i = [] ∧ (itemsB C).drop (i + 1) = [] ∧ wd = [] ∧ i + 1 = N)

section
variable {w4 : World} {px4 : Addr} {N : Nat} {l : List UInt8} {i : Nat} {x6 : ByteArray} {w6 w16 : World} {Li wd : List UInt8} {x y z : Sl} {B : Bnd} {TL : List (List UInt8)}

/-- The state in the middle of a line. -/
structure PbMid (w4 : World) (px4 : Addr) (N : Nat) (l : List UInt8) (i : Nat) (Li wd : List UInt8) (x y z : Sl) (B : Bnd) (TL : List (List UInt8)) (w16 : World) : Prop where
  chg : Chg w4 w16 (fun b => b = px4.block ∨ w4.heap.size ≤ b)
  box : Box w16 px4 T.t_i_Bound [x.v, y.v, z.v]
  out : OutB w4.heap.size w16.heap.size w16 x y z B
  ps : B.ps.length ≤ i + 1
  maps : B.maps.length ≤ i
  pairs : B.pairs.length ≤ i
  tl : TL.length ≤ i
  tls : ∀ a ∈ TL, (10 : UInt8) ∉ a ∧ a.length ≤ 1048576
  run : ∀ C, RtB C → boTextS C = l → ∃ U, U.map itmS = TL ∧ sRun B U ((itemsB C).drop i) = some C ∧ ((wd = wProblem ∨ wd = wMap ∨ wd = wNot ∨ i + 1 = N) → TL = [])

theorem pb_k8t (h4 : px4.block < w4.heap.size) (hN : N ≤ 3000) (hi : i < N) (hLi : (10 : UInt8) ∉ Li ∧ Li.length ≤ 1048576) (hM : PbMid w4 px4 N l i Li wd x y z B TL w16) (hln : ∀ C, RtB C → boTextS C = l → LnOk C N i Li wd)
    (hw : wd = wProblem ∨ wd = wNode ∨ wd = wEdge) : V_s_ParseBound_k8 (IN2 N (PbInv w4 px4 N l)) (MN2 N) x6 (i : Int) w6 px4 (mkS Li) (mkS wd) (mkS (linesS TL)) true w16 := by
  unfold V_s_ParseBound_k8
  rw [mk_lit [10]]
  refine cond_t rfl ?_
  have hlen := linesS_len (n := 1048577) (L := TL) fun a ha => by have := (hM.tls a ha).2; omega
  have htl := hM.tl
  have hL2 := hLi.2
  have hmul : 1048577 * TL.length ≤ 1048577 * 3000 := Nat.mul_le_mul_left _ (by omega)
  refine ⟨by rw [mkS_size, mkS_size]; simp only [List.length_cons, List.length_nil]; omega, ?_⟩
  rw [mkS_app]
  refine ⟨by rw [mkS_size, mkS_size]; simp only [List.length_append, List.length_cons, List.length_nil]; omega, ?_⟩
  rw [mkS_app]
  unfold V_s_ParseBound_k4
  refine IN2_next (by omega) hi ⟨hM.chg, x, y, z, B, TL ++ [Li], by rw [linesS_snoc], by rw [List.length_append, List.length_singleton]; omega, fun a ha => ?_, hM.box, hM.out, ⟨hM.ps, by have := hM.maps; omega, by have := hM.pairs; omega⟩, fun C hC hp => ?_⟩
  · rcases List.mem_append.1 ha with ha | ha
    · exact hM.tls a ha
    · rw [List.mem_singleton.1 ha]; exact hLi
  · obtain ⟨U, h1, h2, h3⟩ := hM.run C hC hp
    rcases hln C hC hp with ⟨ns, R, k1, k2, k3, k4, k5, k6⟩ | ⟨_, _, k3, _⟩
    · rw [k1] at h2
      refine ⟨U ++ [(wd, ns)], by rw [List.map_append, h1, k3]; rfl, ?_, fun hh => absurd hh k6⟩
      rw [← k2]
      rcases hw with rfl | hw
      · have hT : U = [] := by
          have := h3 (.inl rfl)
          rw [this] at h1
          exact List.map_eq_nil_iff.1 h1
        subst hT
        exact sRun_nilP h2
      · have := sRun_acc B R [(wd, ns)] U (fun a ha => by rw [List.mem_singleton.1 ha]; exact hw)
        rw [List.cons_append, List.nil_append] at this
        rw [← this]; exact h2
    · rcases hw with hw | hw | hw <;> rw [k3] at hw <;> exact absurd hw (by decide)

theorem pb_k8f (h4 : px4.block < w4.heap.size) (hN : N ≤ 3000) (hi : i < N) (hLi : (10 : UInt8) ∉ Li ∧ Li.length ≤ 1048576) (hM : PbMid w4 px4 N l i Li wd x y z B TL w16) (hln : ∀ C, RtB C → boTextS C = l → LnOk C N i Li wd)
    (hw : wd ≠ wProblem ∧ wd ≠ wNode ∧ wd ≠ wEdge) : V_s_ParseBound_k8 (IN2 N (PbInv w4 px4 N l)) (MN2 N) x6 (i : Int) w6 px4 (mkS Li) (mkS wd) (mkS (linesS TL)) false w16 := by
  unfold V_s_ParseBound_k8 V_s_ParseBound_k4
  rw [mk_lit [109, 97, 112], mk_lit [110, 111, 116]]
  refine cond_f rfl ?_
  have htl := hM.tl
  have hmm := hM.maps
  have hmp := hM.pairs
  have hps := hM.ps
  have hz := hM.chg.size
  have hnd : ∀ (k : Nat), ¬ ((fun b => w4.heap.size ≤ b ∧ b < w16.heap.size) (px4.add k).block) := fun k hD => by
    have hD' : w4.heap.size ≤ (px4.add k).block := hD.1
    rw [add_block] at hD'; omega
  -- the end of a line that is kept
  have fin : ∀ {w18 w21 : World} {k : Nat} {s' x' y' z' : Sl} {B' : Bnd}, Ext w16 w18 → Chg w18 w21 (fun b => w4.heap.size ≤ b ∧ b < w16.heap.size) → OutB w4.heap.size w21.heap.size w21 x' y' z' B' → k < 3 → [x.v, y.v, z.v].set k s'.v = [x'.v, y'.v, z'.v] → PbNum (i + 1) B' →
      (∀ C, RtB C → boTextS C = l → TL = [] ∧ sRun B' [] ((itemsB C).drop (i + 1)) = some C) → GX.ST (px4.add k) 0 [s'.v] w21 fun w22 => IN2 N (PbInv w4 px4 N l) (mkS (linesS TL)) (IntKind.i64.wrap ((i : Int) + 1)) w22 ∧ MN2 N (mkS (linesS TL)) (IntKind.i64.wrap ((i : Int) + 1)) w22 < MN2 N x6 i w6 := by
    intro w18 w21 k s' x' y' z' B' hE hC hO hk hv hnum hrun
    have hb := (hM.box.ext hE).chg hC fun hD => by have := hD.1; omega
    refine ST_boxG hb (by simpa using hk) rfl fun w22 hC22 hz22 hb22 => ?_
    rw [hv] at hb22
    refine IN2_next (by omega) hi ⟨((hM.chg.trans (.of_ext hE)).trans (hC.mono fun b hD => .inr hD.1)).trans (hC22.mono fun b hD => .inl hD), x', y', z', B', TL, rfl, by omega, hM.tls, hb22, ?_, hnum, fun C hC hp => ?_⟩
    · rw [hz22]
      exact hO.keep fun b k1 _ k3 => hC22.block b k3 fun he => by omega
    · obtain ⟨h1, h2⟩ := hrun C hC hp
      exact ⟨[], by rw [h1]; rfl, h2, fun _ => h1⟩
  have hnil : ∀ C, RtB C → boTextS C = l → (wd = wMap ∨ wd = wNot ∨ i + 1 = N) → TL = [] ∧ sRun B [] ((itemsB C).drop i) = some C := fun C hC hp hh => by
    obtain ⟨U, h1, h2, h3⟩ := hM.run C hC hp
    have h4 := h3 (.inr hh)
    have hT : U = [] := by
      rw [h4] at h1
      exact List.map_eq_nil_iff.1 h1
    subst hT
    exact ⟨h4, h2⟩
  refine cond_seq (a := wd) (b := wMap) (fun heq => ?_) (fun hn1 => ?_)
  · intro w18 hE18 _
    refine ⟨fun b => w4.heap.size ≤ b ∧ b < w16.heap.size, hnd 1, LD_bs1 (hM.box.ext hE18) ⟨Chg.refl _ _, ?_⟩⟩
    refine call (boNumbers_ok hLi.2) ?_
    rintro r w19 ⟨hE19, ns', hOn, hn64, hnl, hnu⟩
    have hz18 := hE18.size_le
    have hz19 := hE19.size_le
    refine ⟨.of_ext hE19, RUN_lit1 (α := Sl) slt_rows r rfl (by decide) fun y0 w20 hE20 hO20 => ⟨.of_ext (hE19.trans hE20), ?_⟩⟩
    refine ((hM.out.ext hE18).ext hE19).pushM1 hz (by omega) (by omega) hOn hn64 (by omega) (by omega) (fun s' w21 hO21 hC21 => ⟨(Chg.of_ext hE19).trans hC21, ?_⟩) hE20 hO20
    refine fin (k := 1) hE18 ((Chg.of_ext hE19).trans hC21) hO21 (by omega) rfl ⟨hps, by simp only [List.length_append, List.length_singleton]; omega, by show B.pairs.length ≤ _; omega⟩ fun C hC hp => ?_
    obtain ⟨h1, h2⟩ := hnil C hC hp (.inl heq)
    refine ⟨h1, ?_⟩
    rcases hln C hC hp with ⟨ns, R, k1, k2, k3, k4, k5, k6⟩ | ⟨_, _, k3, _⟩
    · rw [k1, heq] at h2
      have := hnu wd ns (by rw [k3]; exact k4.split) k4.six (k5 (.inl heq))
      subst this
      rw [← k2]; exact sRun_nilM h2
    · rw [k3] at heq; exact absurd heq (by decide)
  refine cond_seq (a := wd) (b := wNot) (fun heq => ?_) (fun hn2 => ?_)
  · intro w18 hE18 _
    refine ⟨fun b => w4.heap.size ≤ b ∧ b < w16.heap.size, hnd 2, LD_bs2 (hM.box.ext hE18) ⟨Chg.refl _ _, ?_⟩⟩
    refine call (boNumbers_ok hLi.2) ?_
    rintro r w19 ⟨hE19, ns', hOn, hn64, hnl, hnu⟩
    have hz18 := hE18.size_le
    have hz19 := hE19.size_le
    refine ⟨.of_ext hE19, RUN_lit1 (α := Sl) slt_rows r rfl (by decide) fun y0 w20 hE20 hO20 => ⟨.of_ext (hE19.trans hE20), ?_⟩⟩
    refine ((hM.out.ext hE18).ext hE19).pushP1 hz (by omega) (by omega) hOn hn64 (by omega) (by omega) (fun s' w21 hO21 hC21 => ⟨(Chg.of_ext hE19).trans hC21, ?_⟩) hE20 hO20
    refine fin (k := 2) hE18 ((Chg.of_ext hE19).trans hC21) hO21 (by omega) rfl ⟨hps, by show B.maps.length ≤ _; omega, by simp only [List.length_append, List.length_singleton]; omega⟩ fun C hC hp => ?_
    obtain ⟨h1, h2⟩ := hnil C hC hp (.inr (.inl heq))
    refine ⟨h1, ?_⟩
    rcases hln C hC hp with ⟨ns, R, k1, k2, k3, k4, k5, k6⟩ | ⟨_, _, k3, _⟩
    · rw [k1, heq] at h2
      have := hnu wd ns (by rw [k3]; exact k4.split) k4.six (k5 (.inr heq))
      subst this
      rw [← k2]; exact sRun_nilN h2
    · rw [k3] at heq; exact absurd heq (by decide)
  · refine IN2_next (by omega) hi ⟨hM.chg, x, y, z, B, TL, rfl, by omega, hM.tls, hM.box, hM.out, ⟨hps, by omega, by omega⟩, fun C hC hp => ?_⟩
    rcases hln C hC hp with ⟨ns, R, k1, k2, k3, k4, k5, k6⟩ | ⟨k1, k2, k3, k4⟩
    · obtain ⟨U, h1, h2, h3⟩ := hM.run C hC hp
      rw [k1] at h2
      rcases sRun_word h2 with h | h | h | h | h
      · exact absurd h hw.1
      · exact absurd h hn1
      · exact absurd h hn2
      · exact absurd h hw.2.1
      · exact absurd h hw.2.2
    · obtain ⟨h1, h2⟩ := hnil C hC hp (.inr (.inr k4))
      rw [k1] at h2
      exact ⟨[], by rw [h1]; rfl, by rw [k2]; exact h2, fun _ => h1⟩

theorem pb_k5 (h4 : px4.block < w4.heap.size) (hN : N ≤ 3000) (hi : i < N) (hLi : (10 : UInt8) ∉ Li ∧ Li.length ≤ 1048576) (hM : PbMid w4 px4 N l i Li wd x y z B TL w16) (hln : ∀ C, RtB C → boTextS C = l → LnOk C N i Li wd) :
    V_s_ParseBound_k5 (IN2 N (PbInv w4 px4 N l)) (MN2 N) x6 (i : Int) w6 px4 (mkS Li) (mkS wd) (mkS (linesS TL)) w16 := by
  unfold V_s_ParseBound_k5
  rw [mk_lit [112, 114, 111, 98, 108, 101, 109], mk_lit [110, 111, 100, 101], mk_lit [101, 100, 103, 101]]
  refine cond_seq (a := wd) (b := wProblem) (fun heq => ?_) (fun hn1 => ?_)
  · have e : ((mkS wd).toList == (mkS [112, 114, 111, 98, 108, 101, 109]).toList) = true := by rw [mkS_beq]; exact decide_eq_true heq
    rw [e]
    exact pb_k8t h4 hN hi hLi hM hln (.inl heq)
  refine cond_seq (a := wd) (b := wNode) (fun heq => ?_) (fun hn2 => ?_)
  · have e : ((mkS wd).toList == (mkS [110, 111, 100, 101]).toList) = true := by rw [mkS_beq]; exact decide_eq_true heq
    rw [e]
    exact pb_k8t h4 hN hi hLi hM hln (.inr (.inl heq))
  by_cases hn3 : wd = wEdge
  · have e : ((mkS wd).toList == (mkS [101, 100, 103, 101]).toList) = true := by rw [mkS_beq]; exact decide_eq_true hn3
    rw [e]
    exact pb_k8t h4 hN hi hLi hM hln (.inr (.inr hn3))
  · have e : ((mkS wd).toList == (mkS [101, 100, 103, 101]).toList) = false := by rw [mkS_beq]; exact decide_eq_false hn3
    rw [e]
    exact pb_k8f h4 hN hi hLi hM hln ⟨hn1, hn2, hn3⟩
end

end Go.Proofs.YtaeledhbkdakcaaGreatDoor
end

section
/- Texts of bounds read: the reference. -/
namespace Go.Proofs.YtaeledhbkdakcaaGreatDoor
open Go.GX Go.RowKit
set_option maxRecDepth 100000

section
variable {w w4 : World} {px2 px4 : Addr} {N : Nat} {l : List UInt8} {i : Nat} {x6 : ByteArray} {w6 w8 : World} {Li wd : List UInt8} {x y z : Sl} {B : Bnd} {TL : List (List UInt8)}

/-- What the reference answers. -/
def PbRes (w : World) (l : List UInt8) (x y z : Sl) (ok : Bool) (w' : World) : Prop := Ext w w' ∧ ∃ B, RBnd w' x y z B ∧ PbAns l B ok

/-- No answer. -/
def PbNo (w w4 : World) (px2 px4 : Addr) (l : List UInt8) : Prop := ∀ w', Chg w4 w' (fun b => b = px4.block ∨ w4.heap.size ≤ b) → (∀ C, RtB C → boTextS C ≠ l) →
  GX.ST px2 0 [.slice none 0 0, .slice none 0 0, .slice none 0 0] w' fun w'' => LD [.sl, .sl, .sl] px2 w'' fun (x y z : Sl) => PbRes w l x y z false w''

/-- Is the waiting problem to be read? -/
structure PbSt (w4 : World) (px4 : Addr) (N : Nat) (l : List UInt8) (i : Nat) (x y z : Sl) (B : Bnd) (TL : List (List UInt8)) (w8 : World) : Prop where
  chg : Chg w4 w8 (fun b => b = px4.block ∨ w4.heap.size ≤ b)
  box : Box w8 px4 T.t_i_Bound [x.v, y.v, z.v]
  out : OutB w4.heap.size w8.heap.size w8 x y z B
  num : PbNum i B
  tl : TL.length ≤ i
  tls : ∀ a ∈ TL, (10 : UInt8) ∉ a ∧ a.length ≤ 1048576
  run : ∀ C, RtB C → boTextS C = l → ∃ U, U.map itmS = TL ∧ sRun B U ((itemsB C).drop i) = some C

theorem LnOk.cut {C : Bnd} (h : LnOk C N i Li wd) (hw : wd = wProblem ∨ wd = wMap ∨ wd = wNot ∨ i + 1 = N) : CutI ((itemsB C).drop i) := by
  rcases h with ⟨ns, R, k1, _, _, _, _, k6⟩ | ⟨k1, _, _, _⟩
  · rw [k1]
    refine .inr ⟨(wd, ns), R, rfl, ?_⟩
    rcases hw with hw | hw | hw | hw
    · exact .inl hw
    · exact .inr (.inl hw)
    · exact .inr (.inr hw)
    · exact absurd hw k6
  · exact .inl k1

theorem pb_k6 (h4 : px4.block < w4.heap.size) (hno : PbNo w w4 px2 px4 l) (hN : N ≤ 3000) (hi : i < N) (hLi : (10 : UInt8) ∉ Li ∧ Li.length ≤ 1048576) (hM : PbSt w4 px4 N l i x y z B TL w8) (hln : ∀ C, RtB C → boTextS C = l → LnOk C N i Li wd) (f : Bool)
    (hf : f = true → TL ≠ [] ∧ (wd = wProblem ∨ wd = wMap ∨ wd = wNot ∨ i + 1 = N)) (hf2 : f = false → TL = [] ∨ ¬ (wd = wProblem ∨ wd = wMap ∨ wd = wNot ∨ i + 1 = N)) :
    V_s_ParseBound_k6 (IN2 N (PbInv w4 px4 N l)) (MN2 N) (i : Int) w6 (mkS Li) (mkS wd) (PbRes w l) px2 px4 (mkS (linesS TL)) f w8 := by
  unfold V_s_ParseBound_k6
  have htl := hM.tl
  refine cond_b (fun ht => ?_) (fun hff => ?_)
  rotate_left
  · refine pb_k5 h4 hN hi hLi ⟨hM.chg, hM.box, hM.out, by have := hM.num.ps; omega, hM.num.maps, hM.num.pairs, htl, hM.tls, fun C hC hp => ?_⟩ hln
    obtain ⟨U, h1, h2⟩ := hM.run C hC hp
    refine ⟨U, h1, h2, fun hw => ?_⟩
    rcases hf2 hff with h | h
    · exact h
    · exact absurd hw h
  obtain ⟨hne, hw⟩ := hf ht
  have hz := hM.chg.size
  have hps := hM.num.ps
  refine call (sParseProblem_ok (fun a ha => (hM.tls a ha).1) (by omega) fun a ha => (hM.tls a ha).2) ?_
  rintro a b c d ok w9 ⟨hE9, q, own, hR, hA⟩
  refine NEW_ST (one4p a b c d) rfl fun p10 w11 hp10 hE11 hb10 => ?_
  have hE811 := hE9.trans hE11
  -- what a good text has
  have hfl : ∀ C, RtB C → boTextS C = l → ∃ U B1, U.map itmS = TL ∧ U ≠ [] ∧ flush B U = some B1 ∧ sRun B1 [] ((itemsB C).drop i) = some C := fun C hC hp => by
    obtain ⟨U, h1, h2⟩ := hM.run C hC hp
    obtain ⟨B1, h3, h5⟩ := sRun_flush ((hln C hC hp).cut hw) h2
    refine ⟨U, B1, h1, fun he => hne ?_, h3, h5⟩
    rw [← h1, he]; rfl
  refine cond_not (fun hff => hno _ (hM.chg.trans (.of_ext hE811)) fun C hC hp => ?_) (fun ht2 => ?_)
  · obtain ⟨U, B1, h1, h2, h3, _⟩ := hfl C hC hp
    obtain ⟨p, k1, k2, _⟩ := flush_some h2 h3
    exact hA.no hff p k1 (by rw [k2]; exact h1)
  obtain ⟨hq1, hq2⟩ := hA.yes ht2
  refine LD_bs0 (hM.box.ext hE811) (LD_iiss hb10 ?_)
  have hz9 := hE9.size_le
  have hz11 := hE11.size_le
  refine (hM.out.ext hE811).pushQ (r := ⟨a, b, c, d⟩) hz (hR.ext hE11) (Nat.le_refl _) hz9 hz11 (by omega) fun s' w14 hO14 hC14 => ?_
  have hb14 := (hM.box.ext hE811).chg hC14 fun hD => by have := hD.1; omega
  refine ST_boxG hb14 (i := 0) (by simp) rfl fun w15 hC15 hz15 hb15 => ?_
  rw [mk_lit []]
  refine pb_k5 (B := ⟨B.ps ++ [q], B.maps, B.pairs⟩) (TL := []) h4 hN hi hLi ⟨((hM.chg.trans (.of_ext hE811)).trans (hC14.mono fun b hD => .inr hD.1)).trans (hC15.mono fun b hD => .inl hD), hb15, ?_, by simp only [List.length_append, List.length_singleton]; omega, hM.num.maps, hM.num.pairs, by simp, by simp, fun C hC hp => ?_⟩ hln
  · rw [hz15]
    exact hO14.keep fun b k1 _ k3 => hC15.block b k3 fun he => by omega
  · obtain ⟨U, B1, h1, h2, h3, h5⟩ := hfl C hC hp
    obtain ⟨p, k1, k2, k3⟩ := flush_some h2 h3
    have e : itemsP p = itemsP q := itms_inj k1.itmOk hq1.itmOk (by rw [k2, h1, hq2])
    have e2 := itemsP_inj e
    subst e2
    refine ⟨[], rfl, ?_, fun _ => rfl⟩
    rw [← k3]; exact h5
end

theorem sParseBound_ok {w : World} {l : List UInt8} (hl : l.length ≤ 1048576) :
    Calls Tryz.prog F.s_ParseBound #[.string (mkS l)] w (Ret [.agg [.sl, .sl, .sl], .at .bool] fun (x y z : Sl) (ok : Bool) w' => PbRes w l x y z ok w') := by
  refine C_s_ParseBound ?_
  unfold V_s_ParseBound
  refine NEW_intro fun px w1 hp1 hs1 hE1 hb1 => ?_
  refine NEW_ST (one3 ⟨none, 0, 0⟩ ⟨none, 0, 0⟩ ⟨none, 0, 0⟩) rfl fun pb w3 hp3 hE3 hb3 => ?_
  refine call (l1Split_ok (l := l) (c := 10) (by omega)) ?_
  rintro sL w4 ⟨hE4, hOL⟩
  have hz1 := hE1.size_le
  have hz3 := hE3.size_le
  have hz4 := hE4.size_le
  have hpb3 := hb3.lt
  have hpx1 := hb1.lt
  have hE04 := (hE1.trans hE3).trans hE4
  have hb14 := (hb1.ext hE3).ext hE4
  have hno : PbNo w w4 px pb l := by
    intro w' hC hn
    have hb' := hb14.chg hC fun hD => by
      have hD' : px.block = pb.block ∨ w4.heap.size ≤ px.block := hD
      omega
    refine ST_all (vs := [(⟨none, 0, 0⟩ : Sl).v, (⟨none, 0, 0⟩ : Sl).v, (⟨none, 0, 0⟩ : Sl).v]) hb' (one3 _ _ _) rfl fun w'' hs hz hb => LD_box3 hb ?_
    have hE' : Ext w w' := hC.ext0 hE04 fun k hk => by
      have hk' : k = pb.block ∨ w4.heap.size ≤ k := hk
      omega
    exact ⟨hs.ext0 hE' fun k hk => by cases hk; omega, nilB, (outB_nil 0 0 w'').bnd, ⟨(fun h => by cases h), fun _ => ⟨rfl, hn⟩⟩⟩
  have hRL := hOL.rep (strs_ok _)
  have hLx := splitB_len 10 l
  have hpc := fun y (hy : y ∈ splitB 10 l) => splitB_mem hy
  have hOf : ∀ C, RtB C → boTextS C = l → splitB 10 l = (itemsB C).map itmS ++ [[]] := fun C hC hp => by
    rw [← hp, boText_items]; exact linesS_split hC.no10
  generalize splitB 10 l = L at hRL hLx hpc hOf
  rw [hRL.len, List.length_map]
  refine cond_dec (fun hgt => hno _ (Chg.refl _ _) fun C hC hp => ?_) (fun hle => ?_)
  · have e := congrArg List.length (hOf C hC hp)
    have := itemsB_len hC.ok hC.right
    rw [List.length_append, List.length_map, List.length_singleton] at e
    omega
  have hL3 : L.length ≤ 3000 := by omega
  rw [mk_lit []]
  have hb4 := hb3.ext hE4
  have hpb4 : pb.block < w4.heap.size := hb4.lt
  refine ⟨IN2 L.length (PbInv w4 pb L.length l), MN2 L.length, IN2_zero ⟨Chg.refl _ _, ⟨none, 0, 0⟩, ⟨none, 0, 0⟩, ⟨none, 0, 0⟩, nilB, [], rfl, by simp, by simp, hb4, outB_nil _ _ _, ⟨by simp [nilB], by simp [nilB], by simp [nilB]⟩, fun C hC _ => ⟨[], rfl, by rw [List.drop_zero]; exact sRun_items hC.pgood, fun _ => rfl⟩⟩, ?_⟩
  rintro _ _ w6 ⟨i, rfl, hi, hC6, x, y, z, B, TL, rfl, htl, htls, hb6, hO6, hnum, hrun⟩
  intros
  have hE06 : Ext w w6 := hC6.ext0 hE04 fun k hk => by
    have hk' : k = pb.block ∨ w4.heap.size ≤ k := hk
    omega
  have hR6 : SlR (fun b => w3.heap.size ≤ b) w6 sL (L.map mkS) := hRL.chg hC6 fun b hb hlt hD => by
    have hD' : b = pb.block ∨ w4.heap.size ≤ b := hD
    omega
  refine cond_dec (fun hlt => ?_) (fun hge => ?_)
  · have hi' : i < L.length := by omega
    have hLi := hpc _ (List.getElem_mem hi')
    have hLi2 : (10 : UInt8) ∉ L[i] ∧ L[i].length ≤ 1048576 := ⟨hLi.1, by have := hLi.2; omega⟩
    refine hR6.any.ixStr hi' fun pa hc => LD_str hc ?_
    refine call (l1Split_ok (l := L[i]) (c := 32) (by omega)) ?_
    rintro sw w7 ⟨hE7, hOw⟩
    have hRw := (hOw.rep (strs_ok _)).any
    obtain ⟨wd, ws, hws⟩ := List.exists_cons_of_ne_nil (splitB_ne 32 L[i])
    rw [hws] at hRw
    have hRw' : R w7 sw (mkS wd :: ws.map mkS) := hRw
    have hln : ∀ C, RtB C → boTextS C = l → LnOk C L.length i L[i] wd := fun C hC hp => by
      have e := hOf C hC hp
      have el := congrArg List.length e
      rw [List.length_append, List.length_map, List.length_singleton] at el
      by_cases hi2 : i < (itemsB C).length
      · have hk := hC.few.items _ (List.getElem_mem hi2)
        have e2 : L[i] = itmS (itemsB C)[i] := by
          have : ((itemsB C).map itmS ++ [[]])[i]'(by simp; omega) = itmS (itemsB C)[i] := by
            rw [List.getElem_append_left (by simpa using hi2), List.getElem_map]
          rw [← this]; simp only [e]
        have e3 : wd :: ws = (itemsB C)[i].1 :: (itemsB C)[i].2.map numS := by rw [← hws, e2]; exact hk.split
        have e4 : (itemsB C)[i].1 = wd := (List.cons.inj e3).1.symm
        have e5 : (itemsB C)[i] = (wd, (itemsB C)[i].2) := Prod.ext e4 rfl
        refine .inl ⟨(itemsB C)[i].2, (itemsB C).drop (i + 1), by rw [← e5]; exact List.drop_eq_getElem_cons hi2, rfl, by rw [← e5]; exact e2, by rw [← e5]; exact hk, fun hw => ?_, by omega⟩
        exact hC.few.posI _ (List.getElem_mem hi2) (by rw [e4]; exact hw)
      · have hi3 : i = (itemsB C).length := by omega
        have e2 : L[i] = [] := by
          have : ((itemsB C).map itmS ++ [[]])[i]'(by simp; omega) = [] := by
            rw [List.getElem_append_right (by simp; omega)]; simp
          rw [← this]; simp only [e]
        have e3 : wd = [] := by
          rw [e2] at hws
          have : splitB 32 [] = [[]] := rfl
          rw [this] at hws
          exact (List.cons.inj hws).1.symm
        exact .inr ⟨List.drop_of_length_le (by omega), List.drop_of_length_le (by omega), e3, by omega⟩
    have hSt : PbSt w4 pb L.length l i x y z B TL w7 := ⟨hC6.trans (.of_ext hE7), hb6.ext hE7, (hO6.ext hE7).upTo hE7.size_le, hnum, htl, htls, fun C hC hp => by
      obtain ⟨U, h1, h2, _⟩ := hrun C hC hp
      exact ⟨U, h1, h2⟩⟩
    refine (SlR.ixStr (L := wd :: ws) (i := 0) hRw' (by simp)) fun pa hc => LD_str hc ?_
    rw [mk_lit [112, 114, 111, 98, 108, 101, 109], mk_lit [109, 97, 112], mk_lit [110, 111, 116]]
    have hTL : linesS TL = [] ↔ TL = [] := ⟨fun h => by
      cases TL with
      | nil => rfl
      | cons a TL => simp [linesS] at h, fun h => by rw [h]; rfl⟩
    refine cond_sne (fun hne => ?_) (fun heq => ?_)
    rotate_left
    · exact pb_k6 hpb4 hno hL3 hi' hLi2 hSt hln false (fun h => by cases h) fun _ => .inl (hTL.1 heq)
    have hTn : TL ≠ [] := fun h => hne (hTL.2 h)
    refine cond_seq (a := wd) (b := wProblem) (fun heq => ?_) (fun hn1 => ?_)
    · exact pb_k6 hpb4 hno hL3 hi' hLi2 hSt hln true (fun _ => ⟨hTn, .inl heq⟩) fun h => by cases h
    refine cond_seq (a := wd) (b := wMap) (fun heq => ?_) (fun hn2 => ?_)
    · exact pb_k6 hpb4 hno hL3 hi' hLi2 hSt hln true (fun _ => ⟨hTn, .inr (.inl heq)⟩) fun h => by cases h
    refine cond_seq (a := wd) (b := wNot) (fun heq => ?_) (fun hn3 => ?_)
    · exact pb_k6 hpb4 hno hL3 hi' hLi2 hSt hln true (fun _ => ⟨hTn, .inr (.inr (.inl heq))⟩) fun h => by cases h
    have ew : IntKind.i64.wrap (((L.length : Nat) : Int) - 1) = ((L.length - 1 : Nat) : Int) := by rw [wrap_of (by omega) (by omega)]; omega
    rw [ew]
    refine pb_k6 hpb4 hno hL3 hi' hLi2 hSt hln _ (fun h => ⟨hTn, .inr (.inr (.inr ?_))⟩) fun h => .inr ?_
    · have := beq_iff_eq.1 h; omega
    · have h' := beq_eq_false_iff_ne.1 h
      rintro (h1 | h1 | h1 | h1)
      · exact hn1 h1
      · exact hn2 h1
      · exact hn3 h1
      · exact h' (by omega)
  · have : i = L.length := by omega
    subst this
    have hqe : ∀ C, RtB C → boTextS C = l → B = C := by
      intro C hC hp
      obtain ⟨U, h1, h2, h3⟩ := hrun C hC hp
      have e := congrArg List.length (hOf C hC hp)
      rw [List.length_append, List.length_map, List.length_singleton] at e
      have hU : U = [] := by
        rw [h3 rfl] at h1
        exact List.map_eq_nil_iff.1 h1
      subst hU
      rw [List.drop_of_length_le (by omega), sRun, flush_nil] at h2
      exact Option.some.inj h2
    refine LD_box3 hb6 ?_
    refine call (boGood2_ok hO6.bnd) ?_
    rintro b w7 ⟨hb, hE7⟩
    have hC7 := hC6.trans (Chg.of_ext hE7)
    refine cond_not (fun hf => hno _ hC7 fun C hC hp => ?_) (fun ht3 => ?_)
    · have := hqe C hC hp
      subst this
      rw [hb.2 ⟨hC.ok, hC.right⟩] at hf; cases hf
    obtain ⟨hk1, hk2⟩ := hb.1 ht3
    have hrt : RtB B := ⟨hk1, hk2⟩
    refine LD_box3 (hb6.ext hE7) ?_
    refine call (boText_ok (hO6.bnd.ext hE7) hrt.few) ?_
    rintro _ w8 ⟨rfl, hE8⟩
    have hC8 := hC7.trans (Chg.of_ext hE8)
    refine cond_sne (fun hne => hno _ hC8 fun C hC hp => hne (hqe C hC hp ▸ hp)) (fun heq => ?_)
    have hE68 := hE7.trans hE8
    refine LD_box3 (hb6.ext hE68) ?_
    have hb' := hb14.chg hC8 fun hD => by
      have hD' : px.block = pb.block ∨ w4.heap.size ≤ px.block := hD
      omega
    refine ST_all hb' (one3 x y z) rfl fun w9 hs9 hz9 hb9 => LD_box3 hb9 ?_
    have hO9 : OutB w4.heap.size w6.heap.size w9 x y z B := (hO6.ext hE68).keep fun b k1 k2 k3 => hs9.block b k3 fun he => by cases he; omega
    exact ⟨hs9.ext0 (hE06.trans hE68) fun k hk => by cases hk; omega, B, hO9.bnd, ⟨fun _ => ⟨hrt, heq⟩, fun h => by cases h⟩⟩

end Go.Proofs.YtaeledhbkdakcaaGreatDoor
end

section
/- The walk of the law FnExactParseBound. -/
namespace Go.Proofs.YtaeledhbkdakcaaGreatDoor
open Go.GX Go.RowKit
set_option maxRecDepth 100000
set_option maxHeartbeats 800000

theorem fnExactParseBound_ok {w : World} (g : GV w) (l : List UInt8) :
    Calls Tryz.prog F.l_FnExactParseBound #[.string (mkS l)] w (Ret [.at .bool] fun (x : Bool) w' => x = true ∧ Ext w w') := by
  refine C_l_FnExactParseBound ?_
  unfold V_l_FnExactParseBound
  rw [mkS_size]
  refine cond_dec (fun _ => ⟨rfl, Ext.refl _⟩) (fun hl0 => ?_)
  have hl : l.length ≤ 1048576 := by omega
  refine call (sParseBound_ok hl) ?_
  rintro xs ys zs oks w1 ⟨hE1, Bs, hRs, hAs⟩
  refine NEW_ST (one3 xs ys zs) rfl fun p3 w3 hp3 hE3 hb3 => ?_
  have hE03 := hE1.trans hE3
  refine call (ParseBound_ok (g.ext hE03) hl) ?_
  rintro xi yi zi oki w4 ⟨hE4, Bi, hMi, hAi⟩
  obtain ⟨rfl, rfl⟩ := hAs.eq hAi
  have hpre := hAs.pre
  refine NEW_ST (one3 xi yi zi) rfl fun p5 w6 hp5 hE6 hb5 => ?_
  have hE36 := hE4.trans hE6
  have hz3 := hE3.size_le
  have hz4 := hE4.size_le
  have hz6 := hE6.size_le
  have hMi6 := hMi.ext hE6
  refine LD_box3 hb5 (LD_box3 (hb3.ext hE36) ?_)
  refine call (eqBound_ok hMi6.bnd ((hRs.ext hE3).ext hE36)) ?_
  rintro _ w7 ⟨rfl, hE7⟩
  refine cond_f rfl (cond_f (by simp) ?_)
  unfold V_l_FnExactParseBound_k2
  have hz7 := hE7.size_le
  refine LD_box3 (hb5.ext hE7) ?_
  refine call (markB_out (hMi6.ext hE7) (by omega) hpre 1 (by omega) (by omega)) ?_
  rintro mk w8 ⟨hmk, hMk, hC8⟩
  have hb58 := (hb5.ext hE7).chg hC8 fun hd => by have := hd.2; omega
  have hE38 : Ext w3 w8 := hC8.extR (hE36.trans hE7) (Nat.le_refl _)
  refine LD_box3 hb58 ?_
  refine call (heldB_ok hMk) ?_
  rintro _ w9 ⟨rfl, hE9⟩
  refine cond_df (by omega) (cond_ne (fun hne => absurd hmk.symm hne) fun _ => ?_)
  have hE39 := hE38.trans hE9
  refine call (ParseBound_ok (g.ext (hE03.trans hE39)) hl) ?_
  rintro xj yj zj okj w10 ⟨hE10, Bj, hMj, hAj⟩
  obtain ⟨rfl, rfl⟩ := hAs.eq hAj
  refine NEW_ST (one3 xj yj zj) rfl fun p9 w12 hp9 hE12 hb9 => ?_
  have hE9_12 := hE10.trans hE12
  refine LD_box3 hb9 (LD_box3 ((hb3.ext hE39).ext hE9_12) ?_)
  refine call (eqBound_ok (hMj.ext hE12).bnd (((hRs.ext hE3).ext hE39).ext hE9_12)) ?_
  rintro _ w14 ⟨rfl, hE14⟩
  have hE8_14 := hE9.trans (hE9_12.trans hE14)
  refine cond_f rfl (cond_f (by simp) ?_)
  refine LD_box3 (hb58.ext hE8_14) ?_
  refine call (heldB_ok (hMk.ext hE8_14)) ?_
  rintro _ w16 ⟨rfl, hE16⟩
  refine cond_df (by omega) (cond_ne (fun hne => absurd hmk.symm hne) fun _ => ?_)
  exact ⟨rfl, ((hE03.trans hE38).trans hE8_14).trans hE16⟩

end Go.Proofs.YtaeledhbkdakcaaGreatDoor
end

section
/- Facts of this seat's program that every claim's last step asks for, each computed once (together they need more memory than a text may use). -/
namespace Go.Proofs.YtaeledhbkdakcaaGreatDoor


theorem door_enters : Tryz.pinned.checked.prog.mayEnter = true := by kernel_rfl

theorem door_lifts : Tryz.pinned.checked.prog.liftsFinal = false := by kernel_rfl

theorem door_heard : Tryz.pinned.checked.prog.stopsHeard = true := by kernel_rfl

theorem door_laid : laidOutB Tryz.pinned.checked.prog = true := by kernel_rfl

theorem door_maps : mapsRowed Tryz.pinned.checked.prog = true := by kernel_rfl

end Go.Proofs.YtaeledhbkdakcaaGreatDoor
end

section
/- The frame of a card: a contract at a world that has its shape and the listed variables. No program is named here. -/
namespace Go
open Go.ChangeShapes
variable {H : Type} {enc : TypeId × Value → H}

theorem handed_tied {a : Assume} {C : Checked} {os : Os} {f : FuncId} {fn : Func} {s : ChangeSpec} {conds : List PathCond} {apart fresh handsOn again : Bool} {X : World → Array Value → Prop}
    (hX : ∀ (w w' : World) (args : Array Value), w.heap = w'.heap → X w args → X w' args)
    (own : ownKnob C.prog.godebug = none) (started : os.Started) (noInit : C.prog.inits.idxOf? f = none) (hfn : C.prog.funcs[f]? = some fn)
    (witness : ∃ (w : World) (tape : Tape) (i : Input), w.os = os ∧ (w.forCall tape i).Shaped C.prog ∧ i.vars = [] ∧ Input.okWide C.prog (w.forCall tape i) .any w.heap.size f i ∧
      ((s.pre enc C.prog fn conds apart (w.forCall tape i).memory i.args ∧ X (w.forCall tape i).memory i.args) ∧ sizedMet enc C.prog fn (OpenSpec.ofChange s) apart (w.forCall tape i).memory i.args) ∧ a.holds C.prog (lone (Frame.enter C.prog f i.args .normal) [] (w.forCall tape i)))
    (contract : ∀ (W : World) (base : Nat) (args : Array Value) (ds gs : List (DataW H)) (before : List MemPlace),
      (∀ (j : Nat) t v, fn.params[j]? = some t → args[j]? = some v → Value.okWide C.prog W .any base t v) →
      DataW.Whole enc C.prog fn.params.toList s.vars apart W args.toList ds gs before →
      conds.all (PathCond.test C.prog ⟨fn.params.toList, ds, s.plain.varTypes C.prog, gs⟩) = true →
      (DataW.weightsEach C.prog (fn.params.toList ++ s.plain.varTypes C.prog) (ds ++ gs)).all (· ≤ reachBytes) = true → X W args → W.ShapedOpen C.prog →
      a.holds C.prog (lone (Frame.enter C.prog f args .normal) [] W) →
      Calls C.prog f args W fun e W' => ∃ v, e = .returned v ∧ s.post enc C.prog fn apart fresh handsOn again W args v W') :
    ReturnsInHanded a C os f .any (fun w args => (s.pre enc C.prog fn conds apart w args ∧ X w args) ∧ sizedMet enc C.prog fn (OpenSpec.ofChange s) apart w args) (s.post enc C.prog fn apart fresh handsOn again) := by
  refine returnsInHanded_of_calls own started noInit witness ?_
  intro w tape i _ hsh _ hok hpre hholds
  obtain ⟨_, _, _, fn', hfn', _, _, _, _, hval⟩ := hok
  have e : fn' = fn := Option.some.inj (hfn'.symm.trans hfn)
  subst e
  obtain ⟨⟨⟨ds, gs, before, hw, hc⟩, hx⟩, hz⟩ := hpre
  have hw' := DataW.Whole.of_heap (w' := w.forCall tape i) (by rfl) hw
  refine (contract (w.forCall tape i) w.heap.size i.args ds gs before hval hw' hc (hz.weights hw) (hX _ _ _ (by rfl) hx) hsh hholds).mono fun e W' ⟨v, he, hp⟩ => ?_
  subst he
  exact ChangeSpec.post_blind hp

theorem laidMet_tail {P : Program} {x : String × DataW Unit} {rest : List (String × DataW Unit)} {w : World} (h : laidMet P (x :: rest) w) : laidMet P rest w := by
  obtain ⟨ps, ⟨g, t, cs, f, p, q, _, _, _, _, hr, rfl⟩, hn, ha⟩ := h
  exact ⟨q, hr, (List.nodup_append.1 hn).2.1, fun b off hb => ha b off (List.mem_append.2 (.inr hb))⟩

/-- Is a variable a table of numbers of one kind? -/
def tabOkB (P : Program) (name : String) (k : IntKind) (n : Nat) : Bool :=
  match P.globalNamed name with
  | some g => match (P.globals[g]?).map (·.type) with
    | some t => match P.underlying t with
      | some (.array m e) => Nat.beq m n && (match P.underlying e with | some (.int k') => decide (k' = k) | _ => false) && Nat.beq (P.cellsOf e) 1 && Nat.beq (P.cellsOf t) n
      | _ => false
    | none => false
  | none => false

theorem tabIs_of_laid {P : Program} {W : World} {name : String} {k : IntKind} {zs : List Int} {n : Nat} {d : DataW Unit} {rest : List (String × DataW Unit)} (hb : tabOkB P name k n = true) (hd : d = Lib.tabData k zs)
    (h : laidMet P ((name, d) :: rest) W) : Lib.TabIs P W name k zs := by
  subst hd
  unfold tabOkB at hb
  split at hb
  · rename_i g hg
    split at hb
    · rename_i t ht
      split at hb
      · rename_i m e hu
        simp only [Bool.and_eq_true] at hb
        obtain ⟨⟨⟨h1, h2⟩, h3⟩, h4⟩ := hb
        have e1 := Nat.eq_of_beq_eq_true h1
        have e3 := Nat.eq_of_beq_eq_true h3
        have e4 := Nat.eq_of_beq_eq_true h4
        subst e1
        split at h2
        · rename_i k' hk
          have := of_decide_eq_true h2
          subst this
          exact Lib.tabIs_of_head hg ht hu hk e3 e4 h
        · cases h2
      · cases hb
    · cases hb
  · cases hb

def ifaceOkB (P : Program) (name : String) (g : Nat) : Bool :=
  match P.globalNamed name with
  | some g' => Nat.beq g' g && (match (P.globals[g']?).map (·.type) with
    | some t => match P.underlying t with
      | some (.interface _) => true
      | _ => false
    | none => false)
  | none => false

theorem iface_of_laid {P : Program} {W : World} {name nm : String} {d : DataW Unit} {g : Nat} {rest : List (String × DataW Unit)} (hb : ifaceOkB P name g = true) (h : laidMet P ((name, .iface nm d) :: rest) W) :
    ∃ u v, W.cell? ⟨g, 0, none⟩ = some (.iface u v) := by
  unfold ifaceOkB at hb
  split at hb
  · rename_i g' hg
    simp only [Bool.and_eq_true] at hb
    obtain ⟨h1, h2⟩ := hb
    have e1 := Nat.eq_of_beq_eq_true h1
    subst e1
    split at h2
    · rename_i t ht
      split at h2
      · rename_i ms hu
        obtain ⟨ps, ⟨g0, t0, cs0, f0, p0, q0, hg0, ht0, hv0, hd0, _, e0⟩, _, hrows⟩ := h
        obtain rfl := Option.some.inj (hg.symm.trans hg0)
        obtain rfl := Option.some.inj (ht.symm.trans ht0)
        obtain ⟨_, u, v, hcs, _, _⟩ := iface_of_trod hu hd0
        refine ⟨u, v, ?_⟩
        have := World.var?_cell hg0 hv0 0
        rw [this]
        obtain ⟨l⟩ := cs0
        simp only at hcs
        subst hcs
        rfl
      · cases h2
    · cases h2
  · cases hb

end Go
end
