/- Own texts, merged: BoundTxt2, BoundTextWalk, Door, CardFrame. -/
import Derived.Test.YtnhidomgpbohiaaGreatDoorM6
import Derived.Test.YtnhidomgpbohiaaGreatDoorRows
import Derived.KernelRfl
import Derived.JoinedOf
import Derived.HandedShaped
import Derived.Handed
import Derived.Shelf.Vars
import Derived.Lib.LaidTab
import Derived.MakeChecks
import Derived.LaidMore
import Derived.Lay
import Derived.Stop.Joined
import Derived.LaidLaws
set_option linter.unusedVariables false
section
/- Texts of bounds: both sides. -/
namespace Go.Proofs.YtnhidomgpbohiaaGreatDoor
open Go.GX Go.RowKit
open Go.Lib (decDigits)
set_option maxRecDepth 100000

/-- Rows of numbers that are not below zero. -/
def Pos (L : List (List Int)) : Prop := ∀ r ∈ L, ∀ x ∈ r, 0 ≤ x

/-- What a right bound's numbers are. -/
structure BFew (B : Bnd) : Prop where
  len : B.ps.length ≤ 7
  good : ∀ q ∈ B.ps, PGood q ∧ Few q.nodes ∧ Few q.edges
  maps : Few B.maps ∧ Pos B.maps
  pairs : Few B.pairs ∧ Pos B.pairs

theorem bound_few {B : Bnd} (hp : PsOk B.ps) (hr : Right B) (hs : ∀ q ∈ B.ps, SmallP q) : BFew B := by
  have h7 := hp.1.2
  have hlen := hr.len
  refine ⟨h7, fun q hq => ⟨(hp.2 q hq).1, (hp.2 q hq).1.fewN (hs q hq), (hp.2 q hq).1.fewE (hs q hq)⟩, ?_, ?_⟩
  · have key : ∀ r ∈ B.maps, (r.length ≤ 10 ∧ Six r) ∧ ∀ x ∈ r, 0 ≤ x := by
      intro r hr2
      obtain ⟨i, hi, rfl⟩ := List.mem_iff_getElem.1 hr2
      have h1 : i + 1 < B.ps.length := by omega
      obtain ⟨h2, h3⟩ := hr.step i hi h1
      have h4 := (made_round h2.1 h2.2).lab
      have h5 := h3.len
      have h6 := (hp.2 _ (List.getElem_mem h1)).1.lab
      have h8 := h3.labs
      exact ⟨⟨by omega, fun x hx => by have := h8 x hx; omega⟩, fun x hx => (h8 x hx).1⟩
    exact ⟨⟨by omega, fun r hr2 => (key r hr2).1⟩, fun r hr2 => (key r hr2).2⟩
  · have h0 : 0 < B.ps.length := by have := hp.1.1; omega
    have hi : B.ps.length - 1 < B.ps.length := by omega
    obtain ⟨z1, z2⟩ := hr.zero (B.ps.length - 1) hi (by omega)
    have hg := (hp.2 _ (List.getElem_mem hi)).1
    have hn := hg.fewN (hs _ (List.getElem_mem hi))
    have key : ∀ r ∈ B.pairs, (r.length ≤ 10 ∧ Six r) ∧ ∀ x ∈ r, 0 ≤ x := by
      intro r hr2
      obtain ⟨i, hi2, rfl⟩ := List.mem_iff_getElem.1 hr2
      have hin : i < (B.ps[B.ps.length - 1]).nodes.length := by omega
      have h2 := z2 i hin
      have e1 : B.pairs.getD i [] = B.pairs[i] := by rw [List.getD_eq_getElem?_getD, List.getElem?_eq_getElem hi2]; rfl
      have e2 : (B.ps[B.ps.length - 1]).nodes.getD i [] = (B.ps[B.ps.length - 1]).nodes[i] := by rw [List.getD_eq_getElem?_getD, List.getElem?_eq_getElem hin]; rfl
      rw [e1, e2] at h2
      unfold zTwo at h2
      simp only [Bool.and_eq_true, decide_eq_true_eq] at h2
      obtain ⟨h3, h4, h5, _⟩ := h2
      have hrow := (hg.nodes.row i hin).2.2
      have hl := hg.lab
      have a1 := hrow _ (List.contains_iff_mem.1 h4)
      have a2 := hrow _ (List.contains_iff_mem.1 h5)
      obtain ⟨x, y, hxy⟩ : ∃ x y, B.pairs[i] = [x, y] := by
        generalize B.pairs[i] = r at h3
        match r, h3 with
        | [x, y], _ => exact ⟨x, y, rfl⟩
      rw [hxy] at a1 a2 ⊢
      have a1' : 0 ≤ x ∧ x ≤ _ := a1
      have a2' : 0 ≤ y ∧ y ≤ _ := a2
      refine ⟨⟨by simp, ?_⟩, ?_⟩
      · intro z hz
        simp only [List.mem_cons, List.not_mem_nil, or_false] at hz
        rcases hz with rfl | rfl <;> omega
      · intro z hz
        simp only [List.mem_cons, List.not_mem_nil, or_false] at hz
        rcases hz with rfl | rfl <;> omega
    exact ⟨⟨by rw [z1]; exact hn.1, fun r hr2 => (key r hr2).1⟩, fun r hr2 => (key r hr2).2⟩

theorem psText_len {l : List Prob} (h : ∀ q ∈ l, PGood q ∧ Few q.nodes ∧ Few q.edges) : (l.flatMap prTextS).length ≤ 3000000000 * l.length := by
  induction l with
  | nil => simp
  | cons q l ih =>
    have h1 := h q (by simp)
    have h2 := prText_len h1.1 h1.2.1 h1.2.2
    have h3 := ih fun x hx => h x (by simp [hx])
    simp only [List.flatMap_cons, List.length_append, List.length_cons]
    omega

/-! ### The program -/

theorem bldLoop {w0 w : World} (g : GP w0) {p : Addr} {t : Sl} {L : List (List Int)} {wd done : List UInt8} (hL : R w0 t L) (hF : Few L) (hwd : wd.length ≤ 20) (hE : Ext w0 w) (hB : Bld w w0.heap.size p done) (hd : done.length ≤ 100000000000)
    {K : World → Prop} (hk : ∀ w', Ext w0 w' → Bld w' w0.heap.size p (done ++ linesS (L.map (lineS wd))) → K w') :
    ∃ (I : Int → World → Prop) (m : Int → World → Nat), I 0 w ∧ ∀ (x : Int) w5, I x w5 →
      cond (decide ((x : Int) < t.len)) (
      IX t x 1 fun (pa : Addr) =>
      LD [.sl] pa w5 fun (y : Sl) =>
      Calls Tryz.prog F.i_wordsLine #[.string (mkS wd), y.v] w5 (Ret [.at .str] fun (z : ByteArray) w6 =>
      z.size + (mkS [10]).size ≤ 9223372036854775807 ∧ (
      Calls Tryz.prog F.ptr_strings_Builder_WriteString #[.pointer (some p), .string (z ++ mkS [10])] w6 (Ret [.at (.int .i64), .at .val] fun (_ : Int) (_ : Value) w7 =>
      I (IntKind.i64.wrap (x + 1)) w7 ∧ m (IntKind.i64.wrap (x + 1)) w7 < m x w5)))) (
      K w5) := by
  rw [hL.len]
  refine ⟨IN L.length fun i w' => Ext w0 w' ∧ Bld w' w0.heap.size p (done ++ linesS ((L.take i).map (lineS wd))), MN L.length, IN_zero ⟨hE, by simpa [linesS] using hB⟩, ?_⟩
  rintro _ w5 ⟨i, rfl, hi, hE5, hB5⟩
  refine cond_dec (fun hlt => ?_) (fun hge => ?_)
  · have hi' : i < L.length := by omega
    have hrow := hF.2 L[i] (List.getElem_mem hi')
    have hF1 := hF.1
    refine (hL.ext hE5).ixL hi' fun q t ht hc => LD_sl hc ?_
    refine call (wordsLine_ok (wd := wd) (g.ext hE5) ht.any hrow.2 (by omega) (by omega)) ?_
    rintro _ w6 ⟨rfl, hE6⟩
    have hll := few_len hF hwd
    have hlb := linesS_len (n := 100) (L := (L.take i).map (lineS wd)) fun x hx => hll x (by
      obtain ⟨y, hy, rfl⟩ := List.mem_map.1 hx
      exact List.mem_map_of_mem (List.mem_of_mem_take hy))
    rw [List.length_map, List.length_take, Nat.min_eq_left hi] at hlb
    have hl1 := hll (lineS wd L[i]) (List.mem_map_of_mem (List.getElem_mem hi'))
    refine ⟨by rw [mkS_size, mkS_size]; simp only [List.length_cons, List.length_nil]; omega, ?_⟩
    rw [mkS_app]
    have hE06 := hE5.trans hE6
    have hz := hE06.size_le
    refine call (WriteString_ok (hB5.ext hE6) hz (by simp only [List.length_append, List.length_cons, List.length_nil]; omega)) ?_
    rintro _ _ w7 ⟨hBel, hB7⟩
    refine IN_next (by omega) hi' ⟨Below.trans hE06 hBel, ?_⟩
    rw [List.take_succ_eq_append_getElem hi', List.map_append, List.map_singleton, linesS_snoc, ← List.append_assoc]
    exact hB7
  · have : i = L.length := by omega
    subst this
    rw [List.take_length] at hB5
    exact hk _ hE5 hB5

/-- What a bound's text answers. -/
structure BtAns (B : Bnd) (r : ByteArray) (ok : Bool) : Prop where
  asked : ok = true ↔ PsOk B.ps ∧ Right B
  yes : ok = true → r = mkS (boTextS B)
  no : ok = false → r = mkS []
theorem BtAns.eq {B : Bnd} {r s : ByteArray} {a b : Bool} (h : BtAns B r a) (h' : BtAns B s b) : r = s ∧ a = b := by
  have e : a = b := by rw [Bool.eq_iff_iff, h.asked, h'.asked]
  subst e
  refine ⟨?_, rfl⟩
  cases a with
  | true => rw [h.yes rfl, h'.yes rfl]
  | false => rw [h.no rfl, h'.no rfl]

theorem BoundText_ok {w : World} (g : GP w) {a b c : Sl} {B : Bnd} (h : RBnd w a b c B) (hs : SmallB B) :
    Calls Tryz.prog F.i_BoundText #[.agg #[a.v, b.v, c.v]] w (Ret [.at .str, .at .bool] fun (r : ByteArray) (ok : Bool) w' => BtAns B r ok ∧ Ext w w') := by
  refine C_i_BoundText ?_
  unfold V_i_BoundText
  refine NEW_intro fun pb w1 hp1 hs1 hE1 hb1 => LD_box3 hb1 ?_
  refine call (BoundOf_ok (h.ext hE1) hs) ?_
  rintro n ok w2 ⟨hA, hE2⟩
  have hok : ok = true ↔ PsOk B.ps ∧ Right B := hA.1
  have hE02 := hE1.trans hE2
  refine cond_not (fun hf => ⟨⟨⟨(fun hh => by cases hh), (fun hh => by rw [hok.2 hh] at hf; cases hf)⟩, (fun hh => by cases hh), fun _ => rfl⟩, hE02⟩) (fun ht => ?_)
  obtain ⟨hps, hri⟩ := hok.1 ht
  have hF := bound_few hps hri hs.ps
  refine NEW_intro fun po w3 hp3 hs3 hE3 hb3 => LD_bs0 ((hb1.ext hE2).ext hE3) ?_
  have hE13 := hE2.trans hE3
  have h1 := h.ext hE1
  have g1 := g.ext hE1
  have hz2 := hE2.size_le
  have hB3 : Bld w3 w1.heap.size po [] := Bld.fresh hb3 (by omega)
  rw [mk_lit [10], mk_lit [109, 97, 112], mk_lit [110, 111, 116]]
  rw [h.ps.len]
  refine ⟨IN B.ps.length fun i w' => Ext w1 w' ∧ Bld w' w1.heap.size po ((B.ps.take i).flatMap prTextS), MN B.ps.length, IN_zero ⟨hE13, hB3⟩, ?_⟩
  rintro _ w4 ⟨i, rfl, hi, hE4, hB4⟩
  intros
  have h7 := hF.len
  refine cond_dec (fun hlt => ?_) (fun hge => ?_)
  · have hi' : i < B.ps.length := by omega
    have hq := hF.good B.ps[i] (List.getElem_mem hi')
    refine slr_ixP (h1.ps.ext hE4) hi' fun q z u hP hc => LD_pcells hc ?_
    refine NEW_ST (one4p B.ps[i].labels B.ps[i].degree z u) rfl fun pq w6 hp6 hE6 hb6 => LD_iiss hb6 ?_
    refine call (problemText_ok ((g1.ext hE4).ext hE6) (hP.ext hE6) hq.1 hq.2.1 hq.2.2) ?_
    rintro _ w7 ⟨rfl, hE7⟩
    have hE17 := hE4.trans (hE6.trans hE7)
    have hpl := psText_len (l := B.ps.take i) fun q hq => hF.good q (List.mem_of_mem_take hq)
    rw [List.length_take, Nat.min_eq_left hi] at hpl
    have hql := prText_len hq.1 hq.2.1 hq.2.2
    refine call (WriteString_ok ((hB4.ext hE6).ext hE7) hE17.size_le (by omega)) ?_
    rintro _ _ w8 ⟨hBel, hB8⟩
    refine IN_next (by omega) hi' ⟨Below.trans hE17 hBel, ?_⟩
    rw [List.take_succ_eq_append_getElem hi', List.flatMap_append]
    simpa using hB8
  · have : i = B.ps.length := by omega
    subst this
    rw [List.take_length] at hB4
    have hpl := psText_len hF.good
    have hml := linesS_len (few_len hF.maps.1 (w := wMap) (by decide))
    have hnl := linesS_len (few_len hF.pairs.1 (w := wNot) (by decide))
    rw [List.length_map] at hml hnl
    have hm1 := hF.maps.1.1
    have hn1 := hF.pairs.1.1
    refine LD_bs1 (hb1.ext hE4) ?_
    repeat' (with_reducible refine dropV1 ?_)
    refine bldLoop (w0 := w1) (wd := wMap) g1 h1.maps hF.maps.1 (by decide) hE4 hB4 (by omega) fun w9 hE9 hB9 => ?_
    refine LD_bs2 (hb1.ext hE9) ?_
    repeat' (with_reducible refine dropV1 ?_)
    refine bldLoop (w0 := w1) (wd := wNot) g1 h1.pairs hF.pairs.1 (by decide) hE9 hB9 (by rw [List.length_append]; omega) fun w12 hE12 hB12 => ?_
    refine call (BString_ok hB12 hE12.size_le) ?_
    rintro _ w15 ⟨rfl, hBel⟩
    have hE15 : Ext w1 w15 := Below.trans hE12 hBel
    exact ⟨⟨⟨fun _ => ⟨hps, hri⟩, fun _ => rfl⟩, fun _ => by unfold boTextS; rw [List.append_assoc], (fun hh => by cases hh)⟩, hE1.trans hE15⟩

/-! ### The reference -/

theorem boLine_ok {w : World} {wd : List UInt8} {s : Sl} {ns : List Int} (h : R w s ns) (hn : ∀ x ∈ ns, 0 ≤ x ∧ x < 1000000) (hl : ns.length ≤ 10000000) (hwd : wd.length ≤ 10000000) :
    Calls Tryz.prog F.s_boLine #[.string (mkS wd), s.v] w (Ret [.at .str] fun (r : ByteArray) w' => r = mkS (lineS wd ns ++ [10]) ∧ Ext w w') := by
  refine C_s_boLine ?_
  unfold V_s_boLine
  rw [h.len, mk_lit [10], mk_lit [32]]
  refine ⟨IN2 ns.length fun i (out : ByteArray) w' => Ext w w' ∧ out = mkS (lineS wd (ns.take i)), MN2 ns.length, IN2_zero ⟨Ext.refl _, by simp [lineS]⟩, ?_⟩
  rintro _ _ w1 ⟨i, rfl, hi, hE1, rfl⟩
  intros
  have hln := lineS_len wd (l := ns.take i) fun x hx => (hn x (List.mem_of_mem_take hx)).2
  rw [List.length_take] at hln
  refine cond_dec (fun hlt => ?_) (fun hge => ?_)
  rotate_left
  · have : i = ns.length := by omega
    subst this
    rw [List.take_length] at hln ⊢
    refine ⟨by rw [mkS_size, mkS_size]; simp only [List.length_cons, List.length_nil]; omega, ?_, hE1⟩
    rw [mkS_app]
  have hi' : i < ns.length := by omega
  have htk : ns.take (i + 1) = ns.take i ++ [ns[i]] := List.take_succ_eq_append_getElem hi'
  have hx := hn ns[i] (List.getElem_mem hi')
  have hx6 := numS_len hx.2
  refine (h.ext hE1).ixI hi' fun q hq hc => LD_int hc ?_
  obtain ⟨n, hnn⟩ : ∃ n : Nat, ns[i] = n := ⟨ns[i].toNat, by omega⟩
  rw [hnn] at hx6 ⊢
  rw [numS_nat] at hx6
  refine call (l1Num_ok n (by omega) w1) ?_
  rintro _ w2 ⟨rfl, hE2⟩
  refine ⟨by rw [mkS_size, mkS_size]; simp; omega, ?_⟩
  rw [mkS_app]
  refine ⟨by rw [mkS_size, mkS_size]; simp; omega, IN2_next (by omega) hi' ⟨hE1.trans hE2, ?_⟩⟩
  rw [mkS_app, htk, lineS_snoc, hnn, numS_nat]; rfl

theorem catLoop2 {w0 w : World} {t : Sl} {L : List (List Int)} {wd done : List UInt8} (hL : R w0 t L) (hF : Few L) (hP : Pos L) (hwd : wd.length ≤ 20) (hE : Ext w0 w) (hd : done.length ≤ 100000000000)
    {K : ByteArray → World → Prop} (hk : ∀ w', Ext w0 w' → K (mkS (done ++ linesS (L.map (lineS wd)))) w') :
    ∃ (I : ByteArray → Int → World → Prop) (m : ByteArray → Int → World → Nat), I (mkS done) 0 w ∧ ∀ (out : ByteArray) (x : Int) w5, I out x w5 →
      cond (decide ((x : Int) < t.len)) (
      IX t x 1 fun (pa : Addr) =>
      LD [.sl] pa w5 fun (y : Sl) =>
      Calls Tryz.prog F.s_boLine #[.string (mkS wd), y.v] w5 (Ret [.at .str] fun (z : ByteArray) w6 =>
      out.size + z.size ≤ 9223372036854775807 ∧ (
      I (out ++ z) (IntKind.i64.wrap (x + 1)) w6 ∧ m (out ++ z) (IntKind.i64.wrap (x + 1)) w6 < m out x w5))) (
      K out w5) := by
  rw [hL.len]
  refine ⟨IN2 L.length fun i (out : ByteArray) w' => Ext w0 w' ∧ out = mkS (done ++ linesS ((L.take i).map (lineS wd))), MN2 L.length, IN2_zero ⟨hE, by simp [linesS]⟩, ?_⟩
  rintro _ _ w5 ⟨i, rfl, hi, hE5, rfl⟩
  refine cond_dec (fun hlt => ?_) (fun hge => ?_)
  · have hi' : i < L.length := by omega
    have hrow := hF.2 L[i] (List.getElem_mem hi')
    have hpos := hP L[i] (List.getElem_mem hi')
    have hF1 := hF.1
    refine (hL.ext hE5).ixL hi' fun q t ht hc => LD_sl hc ?_
    refine call (boLine_ok (wd := wd) ht.any (fun x hx => ⟨hpos x hx, (hrow.2 x hx).2⟩) (by omega) (by omega)) ?_
    rintro _ w6 ⟨rfl, hE6⟩
    have hll := few_len hF hwd
    have hlb := linesS_len (n := 100) (L := (L.take i).map (lineS wd)) fun x hx => hll x (by
      obtain ⟨y, hy, rfl⟩ := List.mem_map.1 hx
      exact List.mem_map_of_mem (List.mem_of_mem_take hy))
    rw [List.length_map, List.length_take, Nat.min_eq_left hi] at hlb
    have hl1 := hll (lineS wd L[i]) (List.mem_map_of_mem (List.getElem_mem hi'))
    refine ⟨by rw [mkS_size, mkS_size]; simp only [List.length_append, List.length_cons, List.length_nil]; omega, IN2_next (by omega) hi' ⟨hE5.trans hE6, ?_⟩⟩
    rw [mkS_app, List.take_succ_eq_append_getElem hi', List.map_append, List.map_singleton, linesS_snoc, List.append_assoc]
  · have : i = L.length := by omega
    subst this
    rw [List.take_length]
    exact hk _ hE5

theorem boText_ok {w : World} {a b c : Sl} {B : Bnd} (h : RBnd w a b c B) (hF : BFew B) :
    Calls Tryz.prog F.s_boText #[.agg #[a.v, b.v, c.v]] w (Ret [.at .str] fun (r : ByteArray) w' => r = mkS (boTextS B) ∧ Ext w w') := by
  refine C_s_boText ?_
  unfold V_s_boText
  refine NEW_intro fun pb w1 hp1 hs1 hE1 hb1 => LD_bs0 hb1 ?_
  have h1 := h.ext hE1
  have h7 := hF.len
  rw [mk_lit [], mk_lit [109, 97, 112], mk_lit [110, 111, 116]]
  rw [h.ps.len]
  refine ⟨IN2 B.ps.length fun i (out : ByteArray) w' => Ext w1 w' ∧ out = mkS ((B.ps.take i).flatMap prTextS), MN2 B.ps.length, IN2_zero ⟨Ext.refl _, by simp⟩, ?_⟩
  rintro _ _ w4 ⟨i, rfl, hi, hE4, rfl⟩
  intros
  refine cond_dec (fun hlt => ?_) (fun hge => ?_)
  · have hi' : i < B.ps.length := by omega
    have hq := hF.good B.ps[i] (List.getElem_mem hi')
    refine slr_ixP (h1.ps.ext hE4) hi' fun q z u hP hc => LD_pcells hc ?_
    refine NEW_ST (one4p B.ps[i].labels B.ps[i].degree z u) rfl fun pq w6 hp6 hE6 hb6 => LD_iiss hb6 ?_
    refine call (prText_ok (hP.ext hE6) hq.1 hq.2.1 hq.2.2) ?_
    rintro _ w7 ⟨rfl, hE7⟩
    have hE17 := hE4.trans (hE6.trans hE7)
    have hpl := psText_len (l := B.ps.take i) fun q hq => hF.good q (List.mem_of_mem_take hq)
    rw [List.length_take, Nat.min_eq_left hi] at hpl
    have hql := prText_len hq.1 hq.2.1 hq.2.2
    refine ⟨by rw [mkS_size, mkS_size]; omega, IN2_next (by omega) hi' ⟨hE17, ?_⟩⟩
    rw [mkS_app, List.take_succ_eq_append_getElem hi', List.flatMap_append]
    simp
  · have : i = B.ps.length := by omega
    subst this
    rw [List.take_length]
    have hpl := psText_len hF.good
    have hml := linesS_len (few_len hF.maps.1 (w := wMap) (by decide))
    rw [List.length_map] at hml
    have hm1 := hF.maps.1.1
    refine LD_bs1 (hb1.ext hE4) ?_
    repeat' (with_reducible refine dropV2 ?_)
    refine catLoop2 (w0 := w1) (wd := wMap) h1.maps hF.maps.1 hF.maps.2 (by decide) hE4 (by omega) fun w9 hE9 => ?_
    refine LD_bs2 (hb1.ext hE9) ?_
    repeat' (with_reducible refine dropV2 ?_)
    refine catLoop2 (w0 := w1) (wd := wNot) h1.pairs hF.pairs.1 hF.pairs.2 (by decide) hE9 (by rw [List.length_append]; omega) fun w12 hE12 => ?_
    exact ⟨by unfold boTextS; rw [List.append_assoc], hE1.trans hE12⟩

theorem boGood2_ok {w : World} {a b c : Sl} {B : Bnd} (h : RBnd w a b c B) :
    Calls Tryz.prog F.s_boGood #[.agg #[a.v, b.v, c.v]] w (Ret [.at .bool] fun (ok : Bool) w' => (ok = true ↔ PsOk B.ps ∧ Right B) ∧ Ext w w') := by
  refine C_s_boGood ?_
  unfold V_s_boGood
  refine NEW_intro fun pc w2 hp2 hs2 hE hc => LD_bs0 hc ?_
  replace h := h.ext hE
  refine call (boTwo_ok h.ps) ?_
  rintro x w3 ⟨hx, hE3⟩
  replace hE := hE.ext hE3
  replace h := h.ext hE3
  replace hc := hc.ext hE3
  refine cond_b (fun ht => LD_box3 hc ?_) (fun hf => ⟨⟨(fun ht => by cases ht), (fun hA => by rw [hx.2 hA.1] at hf; cases hf)⟩, hE⟩)
  have hp := hx.1 ht
  refine call (boRight_ok h hp) ?_
  rintro y w4 ⟨hy, hE4⟩
  exact ⟨hy.trans ⟨fun hr => ⟨hp, hr⟩, fun hA => hA.2⟩, hE.trans hE4⟩

theorem sBoundText_ok {w : World} {a b c : Sl} {B : Bnd} (h : RBnd w a b c B) (hs : SmallB B) :
    Calls Tryz.prog F.s_BoundText #[.agg #[a.v, b.v, c.v]] w (Ret [.at .str, .at .bool] fun (r : ByteArray) (ok : Bool) w' => BtAns B r ok ∧ Ext w w') := by
  refine C_s_BoundText ?_
  unfold V_s_BoundText
  refine NEW_intro fun pb w1 hp1 hs1 hE1 hb1 => LD_box3 hb1 ?_
  refine call (boGood2_ok (h.ext hE1)) ?_
  rintro ok w2 ⟨hok, hE2⟩
  have hE02 := hE1.trans hE2
  refine cond_not (fun hf => ⟨⟨⟨(fun hh => by cases hh), (fun hh => by rw [hok.2 hh] at hf; cases hf)⟩, (fun hh => by cases hh), fun _ => rfl⟩, hE02⟩) (fun ht => LD_box3 (hb1.ext hE2) ?_)
  obtain ⟨hps, hri⟩ := hok.1 ht
  refine call (boText_ok (h.ext hE02) (bound_few hps hri hs.ps)) ?_
  rintro _ w3 ⟨rfl, hE3⟩
  exact ⟨⟨⟨fun _ => ⟨hps, hri⟩, fun _ => rfl⟩, fun _ => rfl, (fun hh => by cases hh)⟩, hE02.trans hE3⟩

end Go.Proofs.YtnhidomgpbohiaaGreatDoor
end

section
/- The walk of the law FnExactBoundText. -/
namespace Go.Proofs.YtnhidomgpbohiaaGreatDoor
open Go.GX Go.RowKit
set_option maxRecDepth 100000

theorem fnExactBoundText_ok {w : World} (g : GP w) {a b c : Sl} {B : Bnd} (h : RBnd w a b c B) :
    Calls Tryz.prog F.l_FnExactBoundText #[.agg #[a.v, b.v, c.v]] w (Ret [.at .bool] fun (x : Bool) w' => x = true ∧ Ext w w') := by
  refine C_l_FnExactBoundText ?_
  unfold V_l_FnExactBoundText
  refine NEW_intro fun p0 u0 hp0 hs0 hA0 hb0 => ?_
  have hE := hA0
  replace h := h.ext hA0
  refine LD_box3 hb0 ?_
  refine call (szBound_ok h 1048576 (by omega) (by omega)) ?_
  rintro z0 x0 ⟨hz0, hB0⟩
  replace hE := hE.ext hB0
  replace h := h.ext hB0
  replace hb0 := hb0.ext hB0
  refine cond_dec (fun _ => ⟨rfl, hE⟩) (fun hzl0 => ?_)
  have hS := (hz0 (by omega)).1
  refine LD_box3 hb0 ?_
  refine call (toBound_ok h hS) ?_
  rintro x y z w1 ⟨hE1, hR1⟩
  replace hE := hE.ext hE1
  replace h := h.ext hE1
  replace hb0 := hb0.ext hE1
  refine call (sBoundText_ok hR1 hS) ?_
  rintro n1 ok1 w2 ⟨hA1, hE2⟩
  replace hE := hE.ext hE2
  replace h := h.ext hE2
  replace hb0 := hb0.ext hE2
  refine LD_box3 hb0 ?_
  refine call (toBound_ok h hS) ?_
  rintro x2 y2 z2 w3 ⟨hE3, hR3⟩
  replace hE := hE.ext hE3
  replace h := h.ext hE3
  replace hb0 := hb0.ext hE3
  refine NEW_ST (one3 _ _ _) rfl fun p1 w5 hp1 hE5 hb1 => ?_
  replace hE := hE.ext hE5
  replace h := h.ext hE5
  replace hb0 := hb0.ext hE5
  replace hR3 := hR3.ext hE5
  refine LD_box3 hb1 ?_
  refine call (BoundText_ok (g.ext hE) hR3 hS) ?_
  rintro n2 ok2 w6 ⟨hA2, hE6⟩
  replace hE := hE.ext hE6
  replace h := h.ext hE6
  replace hb0 := hb0.ext hE6
  replace hR3 := hR3.ext hE6
  replace hb1 := hb1.ext hE6
  obtain ⟨rfl, rfl⟩ := BtAns.eq hA1 hA2
  refine cond_f (by simp) ?_
  refine cond_f (by simp) ?_
  intro w7 hE7 _
  replace hE := hE.ext hE7
  replace h := h.ext hE7
  replace hb0 := hb0.ext hE7
  replace hR3 := hR3.ext hE7
  replace hb1 := hb1.ext hE7
  refine LD_box3 hb1 (LD_box3 hb0 ⟨Ext.refl _, ?_⟩)
  refine call (toBound_ok h hS) ?_
  rintro x4 y4 z4 w8 ⟨hE8, hR8⟩
  replace hE := hE.ext hE8
  replace h := h.ext hE8
  replace hb0 := hb0.ext hE8
  replace hR3 := hR3.ext hE8
  replace hb1 := hb1.ext hE8
  refine ⟨hE8, call (eqBound_ok hR3 hR8) ?_⟩
  rintro _ w9 ⟨rfl, hE9⟩
  exact ⟨hE8.trans hE9, cond_f (by simp) ⟨rfl, hE.trans hE9⟩⟩

end Go.Proofs.YtnhidomgpbohiaaGreatDoor
end

section
/- Facts of this seat's program that every claim's last step asks for, each computed once (together they need more memory than a text may use). -/
namespace Go.Proofs.YtnhidomgpbohiaaGreatDoor


theorem door_enters : Tryz.pinned.checked.prog.mayEnter = true := by kernel_rfl

theorem door_lifts : Tryz.pinned.checked.prog.liftsFinal = false := by kernel_rfl

theorem door_heard : Tryz.pinned.checked.prog.stopsHeard = true := by kernel_rfl

theorem door_laid : laidOutB Tryz.pinned.checked.prog = true := by kernel_rfl

theorem door_maps : mapsRowed Tryz.pinned.checked.prog = true := by kernel_rfl

end Go.Proofs.YtnhidomgpbohiaaGreatDoor
end

section
/- The frame of a card: a contract at a world that has its shape and the listed variables. No program is named here. -/
namespace Go
open Go.ChangeShapes
variable {H : Type} {enc : TypeId × Value → H}

theorem handed_tied {a : Assume} {C : Checked} {os : Os} {f : FuncId} {fn : Func} {s : ChangeSpec} {conds : List PathCond} {apart fresh handsOn again : Bool} {X : World → Array Value → Prop}
    (hX : ∀ (w w' : World) (args : Array Value), w.heap = w'.heap → X w args → X w' args)
    (own : ownKnob C.prog.godebug = none) (started : os.Started) (noInit : C.prog.inits.idxOf? f = none) (hfn : C.prog.funcs[f]? = some fn)
    (witness : ∃ (w : World) (tape : Tape) (i : Input), w.os = os ∧ (w.forCall tape i).Shaped C.prog ∧ i.vars = [] ∧ Input.okWide C.prog (w.forCall tape i) .any w.heap.size f i ∧
      ((s.pre enc C.prog fn conds apart (w.forCall tape i).memory i.args ∧ X (w.forCall tape i).memory i.args) ∧ sizedMet enc C.prog fn (OpenSpec.ofChange s) apart (w.forCall tape i).memory i.args) ∧ a.holds C.prog (lone (Frame.enter C.prog f i.args .normal) [] (w.forCall tape i)))
    (contract : ∀ (W : World) (base : Nat) (args : Array Value) (ds gs : List (DataW H)) (before : List MemPlace),
      (∀ (j : Nat) t v, fn.params[j]? = some t → args[j]? = some v → Value.okWide C.prog W .any base t v) →
      DataW.Whole enc C.prog fn.params.toList s.vars apart W args.toList ds gs before →
      conds.all (PathCond.test C.prog ⟨fn.params.toList, ds, s.plain.varTypes C.prog, gs⟩) = true →
      (DataW.weightsEach C.prog (fn.params.toList ++ s.plain.varTypes C.prog) (ds ++ gs)).all (· ≤ reachBytes) = true → X W args → W.ShapedOpen C.prog →
      a.holds C.prog (lone (Frame.enter C.prog f args .normal) [] W) →
      Calls C.prog f args W fun e W' => ∃ v, e = .returned v ∧ s.post enc C.prog fn apart fresh handsOn again W args v W') :
    ReturnsInHanded a C os f .any (fun w args => (s.pre enc C.prog fn conds apart w args ∧ X w args) ∧ sizedMet enc C.prog fn (OpenSpec.ofChange s) apart w args) (s.post enc C.prog fn apart fresh handsOn again) := by
  refine returnsInHanded_of_calls own started noInit witness ?_
  intro w tape i _ hsh _ hok hpre hholds
  obtain ⟨_, _, _, fn', hfn', _, _, _, _, hval⟩ := hok
  have e : fn' = fn := Option.some.inj (hfn'.symm.trans hfn)
  subst e
  obtain ⟨⟨⟨ds, gs, before, hw, hc⟩, hx⟩, hz⟩ := hpre
  have hw' := DataW.Whole.of_heap (w' := w.forCall tape i) (by rfl) hw
  refine (contract (w.forCall tape i) w.heap.size i.args ds gs before hval hw' hc (hz.weights hw) (hX _ _ _ (by rfl) hx) hsh hholds).mono fun e W' ⟨v, he, hp⟩ => ?_
  subst he
  exact ChangeSpec.post_blind hp

theorem laidMet_tail {P : Program} {x : String × DataW Unit} {rest : List (String × DataW Unit)} {w : World} (h : laidMet P (x :: rest) w) : laidMet P rest w := by
  obtain ⟨ps, ⟨g, t, cs, f, p, q, _, _, _, _, hr, rfl⟩, hn, ha⟩ := h
  exact ⟨q, hr, (List.nodup_append.1 hn).2.1, fun b off hb => ha b off (List.mem_append.2 (.inr hb))⟩

/-- Is a variable a table of numbers of one kind? -/
def tabOkB (P : Program) (name : String) (k : IntKind) (n : Nat) : Bool :=
  match P.globalNamed name with
  | some g => match (P.globals[g]?).map (·.type) with
    | some t => match P.underlying t with
      | some (.array m e) => Nat.beq m n && (match P.underlying e with | some (.int k') => decide (k' = k) | _ => false) && Nat.beq (P.cellsOf e) 1 && Nat.beq (P.cellsOf t) n
      | _ => false
    | none => false
  | none => false

theorem tabIs_of_laid {P : Program} {W : World} {name : String} {k : IntKind} {zs : List Int} {n : Nat} {d : DataW Unit} {rest : List (String × DataW Unit)} (hb : tabOkB P name k n = true) (hd : d = Lib.tabData k zs)
    (h : laidMet P ((name, d) :: rest) W) : Lib.TabIs P W name k zs := by
  subst hd
  unfold tabOkB at hb
  split at hb
  · rename_i g hg
    split at hb
    · rename_i t ht
      split at hb
      · rename_i m e hu
        simp only [Bool.and_eq_true] at hb
        obtain ⟨⟨⟨h1, h2⟩, h3⟩, h4⟩ := hb
        have e1 := Nat.eq_of_beq_eq_true h1
        have e3 := Nat.eq_of_beq_eq_true h3
        have e4 := Nat.eq_of_beq_eq_true h4
        subst e1
        split at h2
        · rename_i k' hk
          have := of_decide_eq_true h2
          subst this
          exact Lib.tabIs_of_head hg ht hu hk e3 e4 h
        · cases h2
      · cases hb
    · cases hb
  · cases hb

end Go
end
