/- Own texts, merged: PnTok, PnS2, PnS3, PnI1, PnI2, PnS4, Good, Near, Edges, PnI3, PnS5, PnI4, PnOut, Tdy, TidyTextWalk, Trod, Open, Door, CardFrame. -/
import Derived.Test.YtcldmpllpfojhaaDoorM3
import Derived.Deep.Slices
import Derived.Lib.SmallJoins
import Derived.OpenShut
import Derived.ShutString
import Derived.ChangeOld
import Derived.Carry
import Derived.ProofKit
import Derived.Test.YtcldmpllpfojhaaDoorRows
import Derived.KernelRfl
import Derived.JoinedOf
import Derived.HandedShaped
import Derived.Handed
import Derived.Shelf.Vars
import Derived.Lib.LaidTab
import Derived.MakeChecks
import Derived.LaidMore
import Derived.Lay
import Derived.Stop.Joined
import Derived.LaidLaws
set_option linter.unusedVariables false
section
/- Reading a network's text, the program's side: lines, words, marks, ends. -/
namespace Go.GX
open Go.RowKit

instance : Rep (ByteArray × Int) where
  sz := 2
  rep _ _ cs x := cs = [.string x.1, .int .i64 x.2] ∧ I64 x.2
  len h := by rw [h.1]; rfl
  agr _ h := h
  weak _ h := h
instance : RepP (ByteArray × Int) := ⟨by decide⟩
instance : Flat (ByteArray × Int) where
  cells x := [.string x.1, .int .i64 x.2]
  ok x := I64 x.2
  size _ := rfl
  one _ v hv := by simp at hv; rcases hv with rfl | rfl <;> rfl
  repOk h := ⟨rfl, h⟩
  ofRep h := ⟨h.1, h.2⟩

theorem LD_si {w : World} {a : Addr} {s : ByteArray} {n : Int} {K : ByteArray → Int → Prop} (h0 : w.cell? (a.add 0) = some (.string s)) (h1 : w.cell? (a.add 1) = some (.int .i64 n)) (hk : K s n) : LD [.str, .int .i64] a w K :=
  ⟨[.string s, .int .i64 n], rfl, fun i v hi => by
    match i, hi with
    | 0, hi => simp at hi; subst hi; exact h0
    | 1, hi => simp at hi; subst hi; exact h1, hk⟩
end Go.GX
namespace Go.Proofs.YtcldmpllpfojhaaDoor
open Go.GX Go.RowKit
open Go.Lib (decDigits indexByte)
set_option maxRecDepth 100000

/-- A word or line in memory. -/
def wrec (x : Wd) : ByteArray × Int := (mkS x.1, (x.2 : Int))

theorem slt_tl : SlT Tryd.prog T.t_sl_i_textLine T.t_i_textLine 2 24 (.agg #[.string (ByteArray.mk #[]), .int .i64 0]) := ⟨by kernel_rfl, by kernel_rfl, rfl, by decide⟩
theorem slt_tw : SlT Tryd.prog T.t_sl_i_textWord T.t_i_textWord 2 24 (.agg #[.string (ByteArray.mk #[]), .int .i64 0]) := ⟨by kernel_rfl, by kernel_rfl, rfl, by decide⟩

theorem SlR_ixW {D : Nat → Prop} {w : World} {s : Sl} {L : List Wd} (h : SlR D w s (L.map wrec)) {i : Nat} (hi : i < L.length) {K : Addr → Prop}
    (hk : ∀ p, w.cell? (p.add 0) = some (.string (mkS L[i].1)) → w.cell? (p.add 1) = some (.int .i64 (L[i].2 : Int)) → K p) : IX s (i : Int) 2 K :=
  h.ix rfl (by omega) (by rw [List.length_map]; omega) fun p cs hr hc => by
    have hget : (L.map wrec)[((i : Int)).toNat]'(by rw [List.length_map]; omega) = wrec L[i] := by simp
    rw [hget] at hr
    obtain ⟨rfl, _⟩ := hr
    exact hk p (hc 0 _ rfl) (hc 1 _ rfl)

theorem indexByte_cases (c : UInt8) : ∀ l : List UInt8, (c ∉ l ∧ indexByte l c = -1) ∨ ∃ x y, l = x ++ c :: y ∧ c ∉ x ∧ indexByte l c = (x.length : Int)
  | [] => .inl ⟨by simp, rfl⟩
  | b :: l => by
    unfold indexByte
    by_cases hb : b = c
    · subst hb
      refine .inr ⟨[], l, rfl, by simp, ?_⟩
      rw [if_pos (by simp)]; rfl
    · rw [if_neg (by simpa using hb)]
      rcases indexByte_cases c l with ⟨h1, h2⟩ | ⟨x, y, h1, h2, h3⟩
      · refine .inl ⟨by simp [h1]; exact fun h => hb h.symm, ?_⟩
        rw [h2]
        first | rfl | skip
      · refine .inr ⟨b :: x, y, by rw [h1]; rfl, by simp [h2]; exact fun h => hb h.symm, ?_⟩
        rw [h3, if_neg (by first | (simp; done) | (simp; omega))]
        simp
theorem endG_indexB (c : UInt8) (l : List UInt8) (a : Nat) (ha : a ≤ l.length) : (indexByte (l.drop a) c = -1 ∧ endG c l a = l.length) ∨ ∃ k : Nat, indexByte (l.drop a) c = k ∧ endG c l a = a + k ∧ a + k < l.length := by
  rcases indexByte_cases c (l.drop a) with ⟨h1, h2⟩ | ⟨x, y, h1, h2, h3⟩
  · refine .inl ⟨h2, ?_⟩
    unfold endG
    rw [takeWhile_all h1, List.length_drop]; omega
  · refine .inr ⟨x.length, h3, ?_, ?_⟩
    · unfold endG
      rw [h1, takeWhile_app h2]
    · have := congrArg List.length h1
      rw [List.length_drop, List.length_append, List.length_cons] at this
      omega

theorem IndexByte_ok {w : World} {l : List UInt8} {c : UInt8} : Calls Tryd.prog F.strings_IndexByte #[.string (mkS l), .int .u8 (c.toNat : Int)] w (Ret [.at (.int .i64)] fun (x : Int) w' => w' = w ∧ x = indexByte l c) := by
  refine (Srt.strings_IndexByte (mkS l) (c.toNat : Int) w).mono ?_
  rintro e w' ⟨rfl, rfl⟩
  refine ⟨rfl, ?_⟩
  rw [mkS_data, Int.toNat_natCast]
  simp

/-- One piece more. -/
theorem RUN_piece {t e : TypeId} (hT : SlT Tryd.prog t e 2 24 (.agg #[.string (ByteArray.mk #[]), .int .i64 0])) {w0 w1 w : World} {out : Sl} {L : List Wd} (hE0 : Ext w0 w1) (hE : Ext w1 w) (hO : OwnL w1 w0.heap.size e out (L.map wrec)) (hL : L.length ≤ 1048576) (x : List UInt8) (a : Nat) (ha : a ≤ 2097152) {n : Int} (hn : n = (a : Int)) {K : Sl → World → Prop}
    (hk : ∀ r w', Ext w0 w' → OwnL w' w0.heap.size e r ((L ++ [(x, a)]).map wrec) → K r w') :
    RUN Tryd.prog (.at .sl) (Instr.buildSlice t 1 #[(0, .agg #[.string (mkS x), .int .i64 n])]) w fun y w3 => RUN Tryd.prog (.at .sl) (bsem .append #[t, t] t #[out.v, y.v]) w3 K := by
  subst hn
  refine RUN_lit1 (α := ByteArray × Int) hT (mkS x, (a : Int)) rfl (by decide) fun y w3 hE3 hO3 => ?_
  have hz0 := hE0.size_le
  have hz := hE.size_le
  have hz3 := hE3.size_le
  have hOb := (hO.ext hE).ext hE3
  refine RUN_append (α := ByteArray × Int) hT hOb (by omega) (hO3.rep (by intro q hq; rw [List.mem_singleton.1 hq]; show I64 _; unfold I64; omega)).any (by simp; omega) (by simp [maxLen]; omega) fun r w4 hO4 hs4 => ?_
  refine hk r w4 (hs4.ext0 ((hE0.trans hE).trans hE3) fun k hk => (hOb.blk k hk).1) ?_
  rw [List.map_append]; exact hO4

theorem linesOf_ok {w : World} {l : List UInt8} (hl : l.length ≤ 1048576) :
    Calls Tryd.prog F.i_linesOf #[.string (mkS l)] w (Ret [.at .sl] fun (r : Sl) w' => Ext w w' ∧ OwnL w' w.heap.size T.t_i_textLine r ((linesG l 0).map wrec)) := by
  refine C_i_linesOf ?_
  unfold V_i_linesOf
  refine ⟨fun (out : Sl) (at1 : Int) w' => ∃ (k : Nat) (L : List Wd), at1 = k ∧ k ≤ l.length ∧ Ext w w' ∧ OwnL w' w.heap.size T.t_i_textLine out (L.map wrec) ∧ L ++ linesG l k = linesG l 0,
    fun _ at1 _ => l.length - at1.toNat, ⟨0, [], rfl, Nat.zero_le _, Ext.refl _, OwnL.nil _ _ _, rfl⟩, ?_⟩
  rintro out _ w1 ⟨k, L, rfl, hk, hE1, hO1, hL⟩
  intros
  rw [mkS_size]
  have hLl : L.length ≤ l.length := by
    have h1 := linesG_len (l := l) _ 0 rfl
    rw [← hL, List.length_append] at h1; omega
  refine cond_dec (fun hlt => ?_) (fun hge => ?_)
  · have hk' : k < l.length := by omega
    have hle := endG_le (c := 10) (l := l) (a := k) (by omega)
    rw [linesG_line hk'] at hL
    refine RUN_from und_str (by omega) ?_
    refine call (IndexByte_ok (c := 10)) ?_
    rintro _ w3 ⟨rfl, rfl⟩
    rcases endG_indexB 10 l k (by omega) with ⟨h1, h2⟩ | ⟨j, h1, h2, h3⟩
    · refine cond_dt (by rw [h1]; decide) ?_
      refine RUN_from und_str (by omega) ?_
      refine RUN_piece slt_tl hE1 (Ext.refl _) hO1 (by omega) _ k (by omega) rfl fun r w' hE' hO' => ⟨hE', ?_⟩
      have e1 : seg l k (endG 10 l k) = l.drop k := by
        unfold seg; rw [h2, List.take_of_length_le (by simp)]
      rw [← hL, e1, linesG_end (by omega)]
      exact hO'
    · refine cond_df (by rw [h1]; omega) ?_
      rw [h1, wrap_of (n := (k : Int) + (j : Int)) (by omega) (by omega), wrap_of (n := (j : Int) + 1) (by omega) (by omega), wrap_of (n := (k : Int) + ((j : Int) + 1)) (by omega) (by omega)]
      have e0 : (k : Int) + (j : Int) = ((k + j : Nat) : Int) := by omega
      rw [e0]
      refine RUN_sub und_str (by omega) (by omega) ?_
      refine RUN_piece slt_tl hE1 (Ext.refl _) hO1 (by omega) _ k (by omega) rfl fun r w' hE' hO' => ⟨⟨k + j + 1, _, by omega, by omega, hE', hO', ?_⟩, by simp only []; omega⟩
      rw [← hL, h2]
      simp [seg]
  · have e : k = l.length := by omega
    subst e
    rw [linesG_end (by omega), List.append_nil] at hL
    rw [← hL]
    exact ⟨hE1, hO1⟩

theorem wordsOf_ok {w : World} {l : List UInt8} {base : Nat} (hl : l.length ≤ 1048576) (hb : base ≤ 1048576) :
    Calls Tryd.prog F.i_wordsOf #[.string (mkS l), .int .i64 (base : Int)] w (Ret [.at .sl] fun (r : Sl) w' => Ext w w' ∧ OwnL w' w.heap.size T.t_i_textWord r ((wordsG l base 0).map wrec)) := by
  refine C_i_wordsOf ?_
  unfold V_i_wordsOf
  refine ⟨fun (out : Sl) (i : Int) w' => ∃ (k : Nat) (L : List Wd), i = k ∧ k ≤ l.length ∧ Ext w w' ∧ OwnL w' w.heap.size T.t_i_textWord out (L.map wrec) ∧ L ++ wordsG l base k = wordsG l base 0,
    fun _ i _ => l.length - i.toNat, ⟨0, [], rfl, Nat.zero_le _, Ext.refl _, OwnL.nil _ _ _, rfl⟩, ?_⟩
  rintro out _ w1 ⟨k, L, rfl, hk, hE1, hO1, hL⟩
  intros
  rw [mkS_size]
  have hLl : L.length ≤ l.length := by
    have h1 := wordsG_len (l := l) (base := base) _ 0 rfl
    rw [← hL, List.length_append] at h1; omega
  refine cond_dec (fun hlt => ?_) (fun hge => ?_)
  · have hk' : k < l.length := by omega
    have hle := endG_le (c := 32) (l := l) (a := k) (by omega)
    refine SIX_of hk' ?_
    refine cond_eq (fun heq => ?_) (fun hne => ?_)
    · have hb32 : l[k] = 32 := UInt8.toNat_inj.1 (by have : (32 : UInt8).toNat = 32 := rfl; omega)
      rw [wrap_of (n := (k : Int) + 1) (by omega) (by omega)]
      refine ⟨⟨k + 1, L, by omega, by omega, hE1, hO1, ?_⟩, by simp only []; omega⟩
      rw [← hL, wordsG_skip hk' hb32]
    · have hb32 : l[k] ≠ 32 := fun e => hne (by rw [e]; rfl)
      have hgt := endG_gt hk' hb32
      rw [wordsG_word hk' hb32] at hL
      refine RUN_from und_str (by omega) ?_
      refine call (IndexByte_ok (c := 32)) ?_
      rintro _ w3 ⟨rfl, rfl⟩
      rw [wrap_of (n := (base : Int) + (k : Int)) (by omega) (by omega)]
      rcases endG_indexB 32 l k (by omega) with ⟨h1, h2⟩ | ⟨j, h1, h2, h3⟩
      · refine cond_dt (by rw [h1]; decide) ?_
        rw [wrap_of (n := (l.length : Int) - (k : Int)) (by omega) (by omega), wrap_of (n := (k : Int) + ((l.length : Int) - (k : Int))) (by omega) (by omega)]
        have e0 : (k : Int) + ((l.length : Int) - (k : Int)) = (l.length : Int) := by omega
        rw [e0]
        refine RUN_sub und_str (by omega) (Nat.le_refl _) ?_
        refine RUN_piece slt_tw hE1 (Ext.refl _) hO1 (by omega) _ (base + k) (by omega) (by omega) fun r w' hE' hO' => ⟨⟨l.length, _, rfl, Nat.le_refl _, hE', hO', ?_⟩, by simp only []; omega⟩
        rw [← hL, h2]
        simp [seg]
      · refine cond_df (by rw [h1]; omega) ?_
        rw [h1, wrap_of (n := (k : Int) + (j : Int)) (by omega) (by omega)]
        have e0 : (k : Int) + (j : Int) = ((k + j : Nat) : Int) := by omega
        rw [e0]
        refine RUN_sub und_str (by omega) (by omega) ?_
        refine RUN_piece slt_tw hE1 (Ext.refl _) hO1 (by omega) _ (base + k) (by omega) (by omega) fun r w' hE' hO' => ⟨⟨k + j, _, rfl, by omega, hE', hO', ?_⟩, by simp only []; omega⟩
        rw [← hL, h2]
        simp [seg]
  · have e : k = l.length := by omega
    subst e
    rw [wordsG_end (by omega), List.append_nil] at hL
    rw [← hL]
    exact ⟨hE1, hO1⟩

/-! ### Marks and ends -/

theorem CutPrefix_ok {w : World} {b c : UInt8} {t : List UInt8} :
    Calls Tryd.prog F.strings_CutPrefix #[.string (mkS (b :: t)), .string (mkS [c])] w (Ret [.at .str, .at .bool] fun (r : ByteArray) (ok : Bool) w' => w' = w ∧ r = mkS (if b = c then t else b :: t) ∧ ok = decide (b = c)) := by
  refine (Srt.strings_CutPrefix (mkS (b :: t)) (mkS [c]) w).mono ?_
  rintro e w' ⟨rfl, rfl⟩
  have hpre : Go.Lib.hasPrefix (b :: t) [c] = decide (b = c) := by
    unfold Go.Lib.hasPrefix
    by_cases h : b = c
    · subst h; simp [List.isPrefixOf]
    · simp [List.isPrefixOf, h]; exact fun h' => h h'.symm
  have hrest : (⟨(Go.Lib.trimPrefix (mkS (b :: t)).data.toList (mkS [c]).data.toList).toArray⟩ : ByteArray) = mkS (if b = c then t else b :: t) := by
    rw [mkS_data, mkS_data]
    unfold Go.Lib.trimPrefix
    rw [hpre]
    by_cases h : b = c
    · subst h; simp; rfl
    · simp [h]; rfl
  exact ⟨rfl, hrest, hpre⟩

theorem marked_ok {w : World} (g : GV w) {b c : UInt8} {t : List UInt8} (hl : t.length ≤ 1048576) {lo hi : Nat} {lo' hi' : Int} (e1 : lo' = lo) (e2 : hi' = hi) :
    Calls Tryd.prog F.i_marked #[.string (mkS (b :: t)), .string (mkS [c]), .int .i64 lo', .int .i64 hi'] w (Ret [.at (.int .i64), .at .bool] fun (n : Int) (ok : Bool) w' => Ext w w' ∧ ((ok = true ∧ markD c lo hi (b :: t) = some n.toNat ∧ ((n.toNat : Nat) : Int) = n) ∨ (ok = false ∧ markD c lo hi (b :: t) = none))) := by
  subst e1; subst e2
  refine C_i_marked ?_
  unfold V_i_marked
  refine call CutPrefix_ok ?_
  rintro _ _ _ ⟨hw1, rfl, rfl⟩
  obtain rfl := hw1.symm
  have hlen : (if b = c then t else b :: t).length ≤ 1099511627776 := by split; (· omega); (· simp; omega)
  refine call (readNumber_ok g hlen) ?_
  rintro n ok w2 ⟨hE2, hn⟩
  have none' : ∀ {w3 : World} {x : Int}, Ext w w3 → markD c lo hi (b :: t) = none → Ext w w3 ∧ ((false = true ∧ markD c lo hi (b :: t) = some x.toNat ∧ ((x.toNat : Nat) : Int) = x) ∨ (false = false ∧ markD c lo hi (b :: t) = none)) := fun h1 h2 => ⟨h1, .inr ⟨rfl, h2⟩⟩
  refine cond_dec (fun hbc => ?_) (fun hbc => none' hE2 ?_)
  · subst hbc
    rw [if_pos rfl] at hn
    rcases hn with ⟨rfl, hn⟩ | ⟨rfl, _, hn⟩
    · refine cond_t rfl ?_
      refine call (within_ok _ _ _ _) ?_
      rintro _ _ ⟨rfl, rfl⟩
      have hm := markD_read (b := b) (c := b) (lo := lo) (hi := hi) (.inl hn : ReadIs t n)
      cases hin : inR n lo hi with
      | true => exact ⟨hE2, .inl ⟨rfl, hm.1 ⟨rfl, inR_true hin⟩⟩⟩
      | false => exact ⟨hE2, .inr ⟨rfl, hm.2 fun h => inR_false hin h.2⟩⟩
    · refine cond_f rfl (none' hE2 ?_)
      have hm := markD_read (b := b) (c := b) (lo := lo) (hi := hi) (.inr ⟨rfl, hn⟩ : ReadIs t (-1))
      exact hm.2 fun h => by have := h.2.1; omega
  · unfold markD
    simp only []
    rw [if_neg hbc]

theorem Ext.drew {w w' : World} {n : Nat} (h : w' = w.drewN n) : Ext w w' := by
  subst h
  exact ⟨rfl, rfl, rfl, Nat.le_refl _, fun _ _ => rfl⟩

theorem Cut_ok {w : World} (g : GV w) {l : List UInt8} {c : UInt8} (hl : l.length < 4294967281) :
    Calls Tryd.prog F.strings_Cut #[.string (mkS l), .string (mkS [c])] w (Ret [.at .str, .at .str, .at .bool] fun (x y : ByteArray) (ok : Bool) w' => Ext w w' ∧ ((ok = false ∧ splitB c l = [l] ∧ x = mkS l ∧ y = mkS []) ∨ (ok = true ∧ ∃ a b, x = mkS a ∧ y = mkS b ∧ l = a ++ c :: b ∧ c ∉ a))) := by
  obtain ⟨m, hm⟩ := g.mx
  refine (Srt.strings_Cut (mkS l) (mkS [c]) m w (by rw [mkS_size]; exact hl) hm).mono ?_
  rintro e w' ⟨rfl, n, hw⟩
  refine ⟨Ext.drew hw, ?_⟩
  rw [mkS_data, mkS_data]
  unfold Go.Lib.cut
  rcases index_one c l with ⟨h1, h2⟩ | ⟨x, y, h1, h2, h3⟩
  · rw [h2, if_neg (by decide)]
    exact .inl ⟨rfl, splitB_none h1, rfl, rfl⟩
  · rw [h3, if_pos (by omega)]
    refine .inr ⟨rfl, x, y, ?_, ?_, h1, h2⟩
    · show mkS _ = _
      rw [h1, Int.toNat_natCast, List.take_left']
      rfl
    · show mkS _ = _
      rw [h1, Int.toNat_natCast]
      simp

theorem ParsePort_ok {w : World} (g : GV w) {l : List UInt8} (hl : l.length ≤ 1048576) :
    Calls Tryd.prog F.i_ParsePort #[.string (mkS l)] w (Ret [.agg [.int .i64, .int .i64], .at .bool] fun (a b : Int) (ok : Bool) w' => Ext w w' ∧ ((ok = true ∧ portD l = some (a, b)) ∨ (ok = false ∧ portD l = none))) := by
  refine C_i_ParsePort ?_
  unfold V_i_ParsePort
  refine NEW_intro fun p2 w1 hp2 hs1 hE1 hb2 => ?_
  rw [mk_lit [46]]
  refine call (Cut_ok (g.ext hE1) (c := 46) (by omega)) ?_
  rintro x y ok w2 ⟨hE2, hcut⟩
  have no : ∀ {w3 : World}, Ext w w3 → w.heap.size = p2.block → Box w3 p2 T.t_i_End [.int .i64 0, .int .i64 0] → portD l = none →
      GX.ST p2 0 [.int .i64 0, .int .i64 0] w3 fun w4 => LD [.int .i64, .int .i64] p2 w4 fun (a b : Int) => Ext w w4 ∧ ((false = true ∧ portD l = some (a, b)) ∨ (false = false ∧ portD l = none)) := fun hE3 hq hb3 hn =>
    ST_all hb3 (one2 _ _) rfl fun w4 hs4 _ hb4 => LD_box2 hb4 ⟨hs4.ext0 hE3 (fun k hk => by cases hk; omega), .inr ⟨rfl, hn⟩⟩
  rcases hcut with ⟨rfl, hs, rfl, rfl⟩ | ⟨rfl, a, b, rfl, rfl, hs, hna⟩
  · refine call (readNumber_ok ((g.ext hE1).ext hE2) (by omega)) ?_
    rintro n o1 w3 ⟨hE3, _⟩
    refine call (readNumber_ok (((g.ext hE1).ext hE2).ext hE3) (by simp)) ?_
    rintro m o2 w4 ⟨hE4, _⟩
    have hE := ((hE1.trans hE2).trans hE3).trans hE4
    refine cond_t rfl (no hE hp2.symm (((hb2.ext hE2).ext hE3).ext hE4) ?_)
    unfold portD
    rw [hs]
  · have hll : a.length ≤ 1048576 ∧ b.length ≤ 1048576 := by
      have := congrArg List.length hs
      simp at this; omega
    refine call (readNumber_ok ((g.ext hE1).ext hE2) (l := a) (by omega)) ?_
    rintro n o1 w3 ⟨hE3, h1⟩
    refine call (readNumber_ok (((g.ext hE1).ext hE2).ext hE3) (l := b) (by omega)) ?_
    rintro m o2 w4 ⟨hE4, h2⟩
    have hE := ((hE1.trans hE2).trans hE3).trans hE4
    have hb4 := ((hb2.ext hE2).ext hE3).ext hE4
    have none1 : (∀ x, ¬ NumOf a x) → portD l = none := fun hh => by
      cases hp : portD l with
      | none => rfl
      | some e =>
        exfalso
        unfold portD at hp
        rw [hs, splitB_app hna] at hp
        split at hp
        · rename_i x y he
          obtain ⟨rfl, _⟩ := List.cons.inj he
          rw [numD_none.2 hh] at hp
          simp at hp
        · cases hp
    have none2 : (∀ x, ¬ NumOf b x) → portD l = none := fun hh => by
      cases hp : portD l with
      | none => rfl
      | some e =>
        exfalso
        obtain ⟨x, y, he, hx, hy⟩ := portD_some.1 hp
        have h3 := splitB_app (y := y) (num_no46 hx)
        have h4 := splitB_app (y := b) hna
        rw [← he] at h3
        rw [← hs, h3, splitB_none (num_no46 hy)] at h4
        obtain ⟨_, h5⟩ := List.cons.inj h4
        have h6 : b = y := by
          by_cases hb : (46 : UInt8) ∈ b
          · exfalso
            rcases index_one 46 b with ⟨k1, _⟩ | ⟨u, v, k1, k2, _⟩
            · exact k1 hb
            · rw [k1, splitB_app k2] at h5
              have h7 := (List.cons.inj h5).2
              exact splitB_ne _ _ h7.symm
          · rw [splitB_none hb] at h5
            exact (List.cons.inj h5).1.symm
        exact hh _ (h6 ▸ hy)
    refine cond_f rfl ?_
    rcases h1 with ⟨rfl, h1⟩ | ⟨rfl, _, h1⟩
    · refine cond_f rfl ?_
      rcases h2 with ⟨rfl, h2⟩ | ⟨rfl, _, h2⟩
      · refine cond_f rfl ?_
        refine ST_all hb4 (one2 _ _) rfl fun w9 hs9 _ hb9 => LD_box2 hb9 ⟨hs9.ext0 hE (fun k hk => by cases hk; omega), .inl ⟨rfl, ?_⟩⟩
        exact portD_some.2 ⟨a, b, hs, h1, h2⟩
      · exact cond_t rfl (no hE hp2.symm hb4 (none2 h2))
    · exact cond_t rfl (no hE hp2.symm hb4 (none1 h1))

end Go.Proofs.YtcldmpllpfojhaaDoor
end

section
/- Reading a network's text, the reference's side: a word, a line. -/
namespace Go.Proofs.YtcldmpllpfojhaaDoor
open Go.GX Go.RowKit
set_option maxRecDepth 100000

theorem LD_bs4' {w : World} {p : Addr} {t : TypeId} {x : Sl} {v0 v1 v2 v3 : Value} {r : List Value} {K : Sl → Prop} (hb : Box w p t (v0 :: v1 :: v2 :: v3 :: x.v :: r)) (hk : K x) : LD [.sl] (p.add 4) w K := LD_sl (hb.cell (i := 4) rfl) hk
theorem LD_bs5' {w : World} {p : Addr} {t : TypeId} {x : Sl} {v0 v1 v2 v3 v4 : Value} {r : List Value} {K : Sl → Prop} (hb : Box w p t (v0 :: v1 :: v2 :: v3 :: v4 :: x.v :: r)) (hk : K x) : LD [.sl] (p.add 5) w K := LD_sl (hb.cell (i := 5) rfl) hk
theorem LD_bs3' {w : World} {p : Addr} {t : TypeId} {x : Sl} {v0 v1 v2 : Value} {r : List Value} {K : Sl → Prop} (hb : Box w p t (v0 :: v1 :: v2 :: x.v :: r)) (hk : K x) : LD [.sl] (p.add 3) w K := LD_sl (hb.cell (i := 3) rfl) hk

/-- What reading a word answers. -/
structure WordSt (X : Nat → Prop) (base : Nat) (w0 w : World) (x0 : Addr) (t : TypeId) (S0 S : RdS) (c1 a1 : Int) : Prop where
  st : St X base w S [] [] []
  box : Box w x0 t (bxS S c1 a1)
  lines : S.G = S0.G
  chg : Chg w0 w (DY X base x0)
def WordAns (rs : List PR) (at' c : Nat) (id inp f : Int) (es : List (Int × Int)) (ps : List Int) (W : Wd) (S : RdS) (c1 a1 : Int) (ok : Bool) : Prop :=
  (ok = true ∧ ∃ id' inp' f' es' ps', MidR rs S id' inp' f' es' ps' ∧ 0 ≤ id' ∧ ∀ T, refW at' c id inp f es ps (W :: T) = refW at' (c + 1) id' inp' f' es' ps' T) ∨
  (ok = false ∧ ∀ T, refW at' c id inp f es ps (W :: T) = .error (a1, c1))

section
variable {X : Nat → Prop} {base : Nat} {w0 w : World} {x0 : Addr} {t : TypeId} {S0 S : RdS} {c1 a1 : Int}
theorem WordSt.ext {w' : World} (h : WordSt X base w0 w x0 t S0 S c1 a1) (hE : Ext w w') : WordSt X base w0 w' x0 t S0 S c1 a1 :=
  ⟨h.st.ext hE, h.box.ext hE, h.lines, h.chg.trans (dy_ext hE)⟩
theorem WordSt.fail (h : WordSt X base w0 w x0 t S0 S c1 a1) (hX : X x0.block) {w' : World} {c a : Int} (hC : Chg w w' (fun b => b = x0.block)) (hb : Box w' x0 t (bxS S c a)) : WordSt X base w0 w' x0 t S0 S c a :=
  ⟨h.st.other hC fun b hb => by rw [hb]; exact hX, hb, h.lines, h.chg.trans (dy_box hC)⟩
end

theorem word_ok {X : Nat → Prop} {base : Nat} {w0 w : World} {x0 : Addr} {t : TypeId} {S0 S : RdS} {c0 a0 : Int} (h : WordSt X base w0 w x0 t S0 S c0 a0) (hX : X x0.block) {rs : List PR} {id inp f : Int} {es : List (Int × Int)} {ps : List Int} (hM : MidR rs S id inp f es ps) (hid : 0 ≤ id) (hG : S.G.length = rs.length + 1) (hr : rs.length ≤ 40)
    {l : List UInt8} (h0 : 0 < l.length) (hl : l.length ≤ 1048576) {a c : Nat} (ha : a ≤ 2097152) (at' : Nat) :
    Calls Tryd.prog F.ptr_s_txRead_word #[.pointer (some x0), .string (mkS l), .int .i64 (a : Int), .int .i64 (c : Int)] w (Ret [.at .bool] fun (ok : Bool) w' => ∃ S' c1 a1, WordSt X base w0 w' x0 t S0 S' c1 a1 ∧ WordAns rs at' c id inp f es ps (l, a) S' c1 a1 ok) := by
  refine C_ptr_s_txRead_word ?_
  unfold V_ptr_s_txRead_word
  obtain ⟨b, tl, rfl⟩ := List.exists_cons_of_ne_nil (List.length_pos_iff.1 h0)
  have ew : IntKind.i64.wrap ((S.g.len : Int) - 1) = ((rs.length : Nat) : Int) := by rw [h.st.rG.len, hG, wrap_of (by omega) (by omega)]; omega
  -- the place of the first word is noted
  have k1 : ∀ (S1 : RdS) (w1 : World), WordSt X base w0 w1 x0 t S0 S1 c0 a0 → S1.G = S.G → S1.g = S.g → MidR rs S1 id inp (if c = 0 then (a : Int) else f) es ps →
      V_ptr_s_txRead_word_k1 x0 (mkS (b :: tl)) (a : Int) (c : Int) (fun (ok : Bool) w' => ∃ S' c1 a1, WordSt X base w0 w' x0 t S0 S' c1 a1 ∧ WordAns rs at' c id inp f es ps (b :: tl, a) S' c1 a1 ok) S.g w1 := by
    intro S1 w1 h1 hG1 hg1 hM1
    have k2 : ∀ (n : Int), ReadIs tl n → V_ptr_s_txRead_word_k2 x0 (mkS (b :: tl)) (a : Int) (c : Int) (fun (ok : Bool) w' => ∃ S' c1 a1, WordSt X base w0 w' x0 t S0 S' c1 a1 ∧ WordAns rs at' c id inp f es ps (b :: tl, a) S' c1 a1 ok) S.g n w1 := by
      intro n hn
      unfold V_ptr_s_txRead_word_k2
      rw [ew]
      refine LD_bs4' h1.box (h1.st.rowP hM1.getP fun p1 r hc1 hr1 => LD_sl hc1 ?_)
      have hb0 : ∀ {K : Int → Prop}, K (b.toNat : Int) → SIX (mkS (b :: tl)) 0 K := fun hk => SIX_of (l := b :: tl) (i := 0) (by simp) hk
      have hbe : ∀ k : UInt8, ((b.toNat : Int) = (k.toNat : Int)) ↔ b = k := fun k => ⟨fun e => UInt8.toNat_inj.1 (by omega), fun e => by rw [e]⟩
      -- neither mark
      have k5 : ∀ tt : Bool, (if c = 0 then markD 35 1 999999 (b :: tl) else none) = none → (tt = true → ∃ k : Nat, (if ps = [] ∧ (c = 0 ∨ (c = 1 ∧ 0 < id)) then markD 47 0 9 (b :: tl) else none) = some k ∧ n = (k : Int)) → (tt = false → (if ps = [] ∧ (c = 0 ∨ (c = 1 ∧ 0 < id)) then markD 47 0 9 (b :: tl) else none) = none) →
          V_ptr_s_txRead_word_k5 (mkS (b :: tl)) (a : Int) x0 (fun (ok : Bool) w' => ∃ S' c1 a1, WordSt X base w0 w' x0 t S0 S' c1 a1 ∧ WordAns rs at' c id inp f es ps (b :: tl, a) S' c1 a1 ok) S.g n tt w1 := by
        intro tt hm1 ht hf
        unfold V_ptr_s_txRead_word_k5
        rw [ew, add_zero']
        refine cond_b (fun htt => ?_) (fun hff => ?_)
        · obtain ⟨k, hk, rfl⟩ := ht htt
          refine LD_bs2 h1.box (h1.st.ixZ (v := rs.length) (by rw [hM1.lenN]; omega) fun p hp => h1.st.stZ (by rw [hM1.lenN]; omega) hp (by
            have : k ≤ 9 := by
              split at hk
              · obtain ⟨_, _, _, h9⟩ := markD_some.1 hk; omega
              · cases hk
            show I64 _; unfold I64; omega) fun w2 hS2 hC2 => ?_)
          refine ⟨_, c0, a0, ⟨hS2, h1.box.chg hC2 (fun hd => hd.1 hX), h1.lines, h1.chg.trans (dy_of hC2)⟩, .inl ⟨rfl, id, (k : Int), _, es, ps, hM1.setN _, hid, fun T => ?_⟩⟩
          rw [refW, hm1]
          simp only []
          rw [hk]
        · have hm2 := hf hff
          refine call (txPort_ok (l := b :: tl) hl) ?_
          rintro e1 e2 ok w2 ⟨hE2, hp⟩
          refine NEW_ST (Go.GX.one2 _ _) rfl fun pe w4 hpe hE4 hbe4 => ?_
          have h4 := (h1.ext hE2).ext hE4
          rcases hp with ⟨rfl, hp⟩ | ⟨rfl, hp⟩
          · refine cond_f rfl (LD_bs4' h4.box (h4.st.rowP hM1.getP fun p2 r2 hc2 hr2 => LD_sl hc2 ?_))
            rw [hr2.len]
            have hlen := hM1.len
            refine cond_dec (fun h6 => ?_) (fun h6 => ?_)
            · refine call (fail_ok h4.box 3 (a : Int)) ?_
              rintro _ w5 ⟨rfl, hC5, hb5⟩
              refine ⟨S1, 3, a, h4.fail hX hC5 hb5, .inr ⟨rfl, fun T => ?_⟩⟩
              rw [refW, hm1]
              simp only []
              rw [hm2]
              simp only [hp]
              rw [if_pos (by omega)]
            · intro w5 hE5 _
              have h5 := h4.ext hE5
              have hbe5 := hbe4.ext hE5
              have hrg := portD_range hp
              obtain ⟨r, D, hXD, hix, hrl, hrun⟩ := h5.st.snocE hM1.getE (by omega) (e1, e2) ⟨by show I64 _; unfold I64; omega, by show I64 _; unfold I64; omega⟩
              refine ⟨D, hXD _ hX, LD_bs0 h5.box ⟨hXD _ hX, LD_bs0 h5.box (hix _ fun q1 hq hD => ⟨hD, LD_sl hq (LD_box2 hbe5 ?_)⟩)⟩⟩
              refine hrun _ fun w6 hS6 hC6 => ?_
              have hb6 := h5.box.chg hC6 fun hd => hd.1 hX
              intro w7 hE7 _
              have hS7 := hS6.ext hE7
              have hb7 := hb6.ext hE7
              obtain ⟨r', D', hXD', hix', hrl', hrun'⟩ := hS7.snocP hM1.getP (by omega) (a : Int) (by show I64 _; unfold I64; omega)
              refine ⟨D', hXD' _ hX, LD_bs4' hb7 ⟨hXD' _ hX, LD_bs4' hb7 (hix' _ fun q1 hq hD => ⟨hD, LD_sl hq ?_⟩)⟩⟩
              refine hrun' _ fun w8 hS8 hC8 => ?_
              refine ⟨_, c0, a0, ⟨hS8, hb7.chg hC8 fun hd => hd.1 hX, h1.lines, (h5.chg.trans (dy_of hC6)).trans ((dy_ext hE7).trans (dy_of hC8))⟩, .inl ⟨rfl, id, inp, _, _, _, hM1.push (e1, e2) (a : Int) (by omega), hid, fun T => ?_⟩⟩
              rw [refW, hm1]
              simp only []
              rw [hm2]
              simp only [hp]
              rw [if_neg (by omega)]
          · refine cond_t rfl ?_
            refine call (fail_ok h4.box 2 (a : Int)) ?_
            rintro _ w5 ⟨rfl, hC5, hb5⟩
            refine ⟨S1, 2, a, h4.fail hX hC5 hb5, .inr ⟨rfl, fun T => ?_⟩⟩
            rw [refW, hm1]
            simp only []
            rw [hm2]
            simp only [hp]
      -- no identifier
      have k4 : ∀ tt : Bool, (tt = true → ∃ k : Nat, (if c = 0 then markD 35 1 999999 (b :: tl) else none) = some k ∧ n = (k : Int)) → (tt = false → (if c = 0 then markD 35 1 999999 (b :: tl) else none) = none) →
          V_ptr_s_txRead_word_k4 (a : Int) x0 (mkS (b :: tl)) (c : Int) (fun (ok : Bool) w' => ∃ S' c1 a1, WordSt X base w0 w' x0 t S0 S' c1 a1 ∧ WordAns rs at' c id inp f es ps (b :: tl, a) S' c1 a1 ok) S.g n r tt w1 := by
        intro tt ht hf
        unfold V_ptr_s_txRead_word_k4
        rw [ew, add_zero']
        refine cond_b (fun htt => ?_) (fun hff => ?_)
        · obtain ⟨k, hk, rfl⟩ := ht htt
          have hk9 : 1 ≤ k ∧ k ≤ 999999 := by
            split at hk
            · obtain ⟨_, _, _, h9⟩ := markD_some.1 hk; exact h9
            · cases hk
          refine LD_bs1 h1.box (h1.st.ixY (v := rs.length) (by rw [hM1.lenI]; omega) fun p hp => h1.st.stY (by rw [hM1.lenI]; omega) hp (by show I64 _; unfold I64; omega) fun w2 hS2 hC2 => ?_)
          refine ⟨_, c0, a0, ⟨hS2, h1.box.chg hC2 (fun hd => hd.1 hX), h1.lines, h1.chg.trans (dy_of hC2)⟩, .inl ⟨rfl, (k : Int), inp, _, es, ps, hM1.setI _, by omega, fun T => ?_⟩⟩
          rw [refW, hk]
        · have hm1 := hf hff
          have hm47 : b ≠ 47 → (if ps = [] ∧ (c = 0 ∨ (c = 1 ∧ 0 < id)) then markD 47 0 9 (b :: tl) else none) = none := fun hne => by
            split
            · unfold markD; simp only []; rw [if_neg hne]
            · rfl
          refine hb0 ?_
          refine cond_eq (fun e47 => ?_) (fun n47 => k5 false hm1 (fun hh => by cases hh) fun _ => hm47 fun e => n47 ((hbe 47).2 e))
          have hb47 : b = 47 := (hbe 47).1 e47
          rw [hr1.len]
          have last : (ps = [] ∧ (c = 0 ∨ (c = 1 ∧ 0 < id))) → Calls Tryd.prog F.s_l1In #[.int .i64 n, .int .i64 0, .int .i64 9] w1 (Ret [.at .bool] fun (x92 : Bool) w9 => V_ptr_s_txRead_word_k5 (mkS (b :: tl)) (a : Int) x0 (fun (ok : Bool) w' => ∃ S' c1 a1, WordSt X base w0 w' x0 t S0 S' c1 a1 ∧ WordAns rs at' c id inp f es ps (b :: tl, a) S' c1 a1 ok) S.g n x92 w9) := by
            intro hcond
            refine call (l1In_ok _ _ _ _) ?_
            rintro _ _ ⟨rfl, rfl⟩
            have hmr := markD_read (b := b) (c := 47) (lo := 0) (hi := 9) hn
            refine k5 _ hm1 (fun hh => ?_) (fun hh => ?_)
            · rw [if_pos hcond]
              obtain ⟨q1, q2⟩ := hmr.1 ⟨hb47, inR_true hh⟩
              exact ⟨_, q1, q2.symm⟩
            · rw [if_pos hcond]
              exact hmr.2 fun q => inR_false hh q.2
          have skip : ¬ (ps = [] ∧ (c = 0 ∨ (c = 1 ∧ 0 < id))) → V_ptr_s_txRead_word_k5 (mkS (b :: tl)) (a : Int) x0 (fun (ok : Bool) w' => ∃ S' c1 a1, WordSt X base w0 w' x0 t S0 S' c1 a1 ∧ WordAns rs at' c id inp f es ps (b :: tl, a) S' c1 a1 ok) S.g n false w1 := fun hn' =>
            k5 false hm1 (fun hh => by cases hh) fun _ => if_neg hn'
          refine cond_eq (fun e0 => ?_) (fun ne0 => skip fun q => ne0 (by rw [q.1]; rfl))
          have hps : ps = [] := List.length_eq_zero_iff.1 (by omega)
          refine cond_eq (fun ec => last ⟨hps, .inl (by omega)⟩) (fun nc => ?_)
          refine cond_eq (fun ec1 => ?_) (fun nc1 => skip fun q => by
            rcases q.2 with q | q
            · exact nc (by omega)
            · exact nc1 (by omega))
          have hgi := hM1.getI
          have hvi : rs.length < S1.I.length := by rw [hM1.lenI]; omega
          have hge : S1.I[rs.length] = id := by rw [List.getElem?_eq_getElem hvi] at hgi; exact Option.some.inj hgi
          refine LD_bs1 h1.box (h1.st.rIds.ixI hvi fun p hc hI => LD_int hI ?_)
          rw [hge]
          refine cond_dec (fun hpos => last ⟨hps, .inr ⟨by omega, by omega⟩⟩) (fun hneg => skip fun q => by
            rcases q.2 with q | q
            · exact nc (by omega)
            · omega)
      refine hb0 ?_
      refine cond_eq (fun e35 => ?_) (fun n35 => k4 false (fun hh => by cases hh) fun _ => ?_)
      · refine cond_eq (fun ec => ?_) (fun nc => k4 false (fun hh => by cases hh) fun _ => if_neg (by omega))
        refine call (l1In_ok _ _ _ _) ?_
        rintro _ _ ⟨rfl, rfl⟩
        have hmr := markD_read (b := b) (c := 35) (lo := 1) (hi := 999999) hn
        have hc0 : c = 0 := by omega
        refine k4 _ (fun hh => ?_) (fun hh => ?_)
        · rw [if_pos hc0]
          obtain ⟨q1, q2⟩ := hmr.1 ⟨(hbe 35).1 e35, inR_true hh⟩
          exact ⟨_, q1, q2.symm⟩
        · rw [if_pos hc0]
          exact hmr.2 fun q => inR_false hh q.2
      · split
        · unfold markD; simp only []; rw [if_neg fun e => n35 ((hbe 35).2 e)]
        · rfl
    unfold V_ptr_s_txRead_word_k1
    rw [mkS_size]
    refine cond_dec (fun hgt => ?_) (fun hle => k2 (-1) ?_)
    · refine RUN_from und_str (l := b :: tl) (a := 1) (by simp) ?_
      refine call (l1Read_ok (l := tl) (by simp at hl; omega)) ?_
      rintro n _ ⟨rfl, hn⟩
      exact k2 n hn
    · have : tl = [] := List.length_eq_zero_iff.1 (by simp at hle; omega)
      subst this
      refine .inr ⟨rfl, fun y hy => ?_⟩
      obtain ⟨n, _, h2, _⟩ := hy
      exact decDigits_ne n h2
  refine LD_bs3' h.box ?_
  refine cond_eq (fun ec => ?_) (fun nc => ?_)
  · have hc0 : c = 0 := by omega
    rw [ew]
    refine LD_bs5' h.box (h.st.ixF (v := rs.length) (by rw [hM.lenH]; omega) fun p hp => h.st.stF (by rw [hM.lenH]; omega) hp (by show I64 _; unfold I64; omega) fun w2 hS2 hC2 => ?_)
    refine k1 _ _ ⟨hS2, h.box.chg hC2 (fun hd => hd.1 hX), h.lines, h.chg.trans (dy_of hC2)⟩ rfl rfl ?_
    rw [if_pos hc0]
    exact hM.setH _
  · refine k1 S w h rfl rfl ?_
    rw [if_neg (by omega)]
    exact hM

end Go.Proofs.YtcldmpllpfojhaaDoor
end

section
/- Reading a network's text, the reference's side: a line. -/
namespace Go.GX
open Go.RowKit
theorem RUN_le {P : Program} {s : Sh} {x : Sem Value} {w : World} {K K' : Cur (World → Prop) s.ats} (h : RUN P s x w K) (hk : CurLe s.ats K K') : RUN P s x w K' := by
  unfold RUN at h ⊢
  cases hx : x.run P w with
  | ok v w' =>
    simp only [hx] at h ⊢
    cases hc : s.cells v with
    | none => simp only [hc] at h
    | some cs => simp only [hc] at h ⊢; exact app_le hk h
  | halt _ _ => simp only [hx] at h
end Go.GX
namespace Go.Proofs.YtcldmpllpfojhaaDoor
open Go.GX Go.RowKit
set_option maxRecDepth 100000

section
variable {X : Nat → Prop} {base : Nat} {w w' w0 : World} {S : RdS} {li : List (Sl × Int)} {le lp : List Sl}
/-- A literal, append, the variable: a number more. -/
theorem St.one (h : St X base w S li le lp) (n : Int) (hn : I64 n) {K : Sl → World → Prop} (hk : ∀ s w', St X base w' S ((s, n) :: li) le lp → Chg w w' (DX X base) → K s w') :
    RUN Tryd.prog (.at .sl) (Instr.buildSlice T.t_sl_int 1 #[(0, .int .i64 n)]) w K :=
  RUN_le (h.litI n hn (Chg.refl w _) hk) fun _ _ hh => hh.2
theorem St.oneE (h : St X base w S li le lp) {K : Sl → World → Prop} (hk : ∀ s w', St X base w' S li (s :: le) lp → Chg w w' (DX X base) → K s w') :
    RUN Tryd.prog (.at .sl) (Instr.buildSlice T.t_sl_sl_i_End 1 #[(0, .slice none 0 0)]) w K :=
  RUN_le (h.litE (Chg.refl w _) hk) fun _ _ hh => hh.2
theorem St.oneP (h : St X base w S li le lp) {K : Sl → World → Prop} (hk : ∀ s w', St X base w' S li le (s :: lp) → Chg w w' (DX X base) → K s w') :
    RUN Tryd.prog (.at .sl) (Instr.buildSlice T.t_sl_sl_int 1 #[(0, .slice none 0 0)]) w K :=
  RUN_le (h.litP (Chg.refl w _) hk) fun _ _ hh => hh.2

theorem St.moreY (h : St X base w S [] [] []) (n : Int) (hn : I64 n) (hl : S.I.length ≤ 1000) {K : Sl → World → Prop} (hk : ∀ s' w', St X base w' { S with y := s', I := S.I ++ [n] } [] [] [] → Chg w w' (DX X base) → K s' w') :
    RUN Tryd.prog (.at .sl) (Instr.buildSlice T.t_sl_int 1 #[(0, .int .i64 n)]) w fun y1 w1 => RUN Tryd.prog (.at .sl) (bsem .append #[T.t_sl_int, T.t_sl_int] T.t_sl_int #[S.y.v, y1.v]) w1 K :=
  h.one n hn fun _ _ h1 hC1 => RUN_le (h1.appY (List.mem_cons_self ..) hl hC1 fun s' w' h2 hC2 => hk s' w' h2.drop hC2) fun _ _ hh => hh.2

theorem St.moreZ (h : St X base w S [] [] []) (n : Int) (hn : I64 n) (hl : S.N.length ≤ 1000) {K : Sl → World → Prop} (hk : ∀ s' w', St X base w' { S with z := s', N := S.N ++ [n] } [] [] [] → Chg w w' (DX X base) → K s' w') :
    RUN Tryd.prog (.at .sl) (Instr.buildSlice T.t_sl_int 1 #[(0, .int .i64 n)]) w fun y1 w1 => RUN Tryd.prog (.at .sl) (bsem .append #[T.t_sl_int, T.t_sl_int] T.t_sl_int #[S.z.v, y1.v]) w1 K :=
  h.one n hn fun _ _ h1 hC1 => RUN_le (h1.appZ (List.mem_cons_self ..) hl hC1 fun s' w' h2 hC2 => hk s' w' h2.drop hC2) fun _ _ hh => hh.2

theorem St.moreF (h : St X base w S [] [] []) (n : Int) (hn : I64 n) (hl : S.H.length ≤ 1000) {K : Sl → World → Prop} (hk : ∀ s' w', St X base w' { S with f := s', H := S.H ++ [n] } [] [] [] → Chg w w' (DX X base) → K s' w') :
    RUN Tryd.prog (.at .sl) (Instr.buildSlice T.t_sl_int 1 #[(0, .int .i64 n)]) w fun y1 w1 => RUN Tryd.prog (.at .sl) (bsem .append #[T.t_sl_int, T.t_sl_int] T.t_sl_int #[S.f.v, y1.v]) w1 K :=
  h.one n hn fun _ _ h1 hC1 => RUN_le (h1.appF (List.mem_cons_self ..) hl hC1 fun s' w' h2 hC2 => hk s' w' h2.drop hC2) fun _ _ hh => hh.2

theorem St.moreG (h : St X base w S [] [] []) (n : Int) (hn : I64 n) (hl : S.G.length ≤ 1000) {K : Sl → World → Prop} (hk : ∀ s' w', St X base w' { S with g := s', G := S.G ++ [n] } [] [] [] → Chg w w' (DX X base) → K s' w') :
    RUN Tryd.prog (.at .sl) (Instr.buildSlice T.t_sl_int 1 #[(0, .int .i64 n)]) w fun y1 w1 => RUN Tryd.prog (.at .sl) (bsem .append #[T.t_sl_int, T.t_sl_int] T.t_sl_int #[S.g.v, y1.v]) w1 K :=
  h.one n hn fun _ _ h1 hC1 => RUN_le (h1.appG (List.mem_cons_self ..) hl hC1 fun s' w' h2 hC2 => hk s' w' h2.drop hC2) fun _ _ hh => hh.2
theorem St.moreE (h : St X base w S [] [] []) (hl : S.E.length ≤ 1000) {K : Sl → World → Prop} (hk : ∀ s' w', St X base w' { S with x := s', E := S.E ++ [[]] } [] [] [] → Chg w w' (DX X base) → K s' w') :
    RUN Tryd.prog (.at .sl) (Instr.buildSlice T.t_sl_sl_i_End 1 #[(0, .slice none 0 0)]) w fun y1 w1 => RUN Tryd.prog (.at .sl) (bsem .append #[T.t_sl_sl_i_End, T.t_sl_sl_i_End] T.t_sl_sl_i_End #[S.x.v, y1.v]) w1 K :=
  h.oneE fun _ _ h1 hC1 => RUN_le (h1.appE (List.mem_cons_self ..) hl hC1 fun s' w' h2 hC2 => hk s' w' h2.drop hC2) fun _ _ hh => hh.2
theorem St.moreP (h : St X base w S [] [] []) (hl : S.P.length ≤ 1000) {K : Sl → World → Prop} (hk : ∀ s' w', St X base w' { S with p := s', P := S.P ++ [[]] } [] [] [] → Chg w w' (DX X base) → K s' w') :
    RUN Tryd.prog (.at .sl) (Instr.buildSlice T.t_sl_sl_int 1 #[(0, .slice none 0 0)]) w fun y1 w1 => RUN Tryd.prog (.at .sl) (bsem .append #[T.t_sl_sl_int, T.t_sl_sl_int] T.t_sl_sl_int #[S.p.v, y1.v]) w1 K :=
  h.oneP fun _ _ h1 hC1 => RUN_le (h1.appP (List.mem_cons_self ..) hl hC1 fun s' w' h2 hC2 => hk s' w' h2.drop hC2) fun _ _ hh => hh.2

end

theorem RowsR.lens {rs : List PR} {S : RdS} (h : RowsR rs S) : S.E.length = rs.length ∧ S.I.length = rs.length ∧ S.N.length = rs.length ∧ S.P.length = rs.length ∧ S.H.length = rs.length := by
  refine ⟨by rw [h.ends]; simp [endsR], by rw [h.ids]; simp [idsR], by rw [h.inp]; simp [inpsR], by rw [h.ports]; simp, h.fst.1⟩

/-- The state between two lines. -/
structure LineSt (X : Nat → Prop) (base : Nat) (w0 w : World) (x0 : Addr) (t : TypeId) (S : RdS) (rs : List PR) (c1 a1 : Int) : Prop where
  st : St X base w S [] [] []
  box : Box w x0 t (bxS S c1 a1)
  rows : RowsR rs S
  lines : S.G = rs.map (·.lat)
  chg : Chg w0 w (DY X base x0)

/-- A loop's dead values. -/
theorem dropVi {w : World} {i0 : Int} {C : (Int → World → Prop) → (Int → World → Nat) → Int → World → Prop} (h : ∃ (I : Int → World → Prop) (m : Int → World → Nat), I i0 w ∧ ∀ (x : Int) w5, I x w5 → C I m x w5) :
    ∃ (I : Int → World → Prop) (m : Int → World → Nat), I i0 w ∧ ∀ (x : Int) w5, I x w5 → ∀ _ : Value, C I m x w5 := by
  obtain ⟨I, m, h1, h2⟩ := h
  exact ⟨I, m, h1, fun x w5 h _ => h2 x w5 h⟩

/-- The end of a piece, searched byte by byte. -/
theorem endLoop {c : UInt8} {l : List UInt8} {i : Nat} (hi : i ≤ l.length) (hl : l.length ≤ 1048576) {w : World} {k : Int} (hk : k = (c.toNat : Int)) {K : Int → World → Prop} (hK : K (endG c l i : Int) w) :
    ∃ (I : Int → World → Prop) (m : Int → World → Nat), I (i : Int) w ∧ ∀ (x : Int) w1, I x w1 →
      cond (decide ((x : Int) < (l.length : Nat))) (
      SIX (mkS l) x fun (b : Int) =>
      cond ((b : Int) != k) (
      I (IntKind.i64.wrap (x + 1)) w1 ∧ m (IntKind.i64.wrap (x + 1)) w1 < m x w1) (
      K x w1)) (
      K x w1) := by
  subst hk
  refine ⟨fun x w1 => w1 = w ∧ ∃ j : Nat, x = j ∧ j ≤ l.length ∧ endG c l j = endG c l i, fun x _ => l.length - x.toNat, ⟨rfl, i, rfl, hi, rfl⟩, ?_⟩
  rintro _ _ ⟨rfl, j, rfl, hj, he⟩
  refine cond_dec (fun hlt => ?_) (fun hge => ?_)
  · have hj' : j < l.length := by omega
    refine SIX_of hj' ?_
    refine cond_ne (fun hne => ?_) (fun heq => ?_)
    · have hbc : l[j] ≠ c := fun e => hne (by rw [e])
      rw [wrap_of (n := (j : Int) + 1) (by omega) (by omega)]
      exact ⟨⟨rfl, j + 1, by omega, by omega, by rw [← he, endG_step hj' hbc]⟩, by simp only []; omega⟩
    · have hbc : l[j] = c := UInt8.toNat_inj.1 (by omega)
      rw [← he, endG_stop (.inr (by rw [List.getElem?_eq_getElem hj', hbc]))] at hK
      exact hK
  · have : j = l.length := by omega
    subst this
    rw [← he, endG_stop (.inl rfl)] at hK
    exact hK

theorem line_ok {X : Nat → Prop} {base : Nat} {w0 w : World} {x0 : Addr} {t : TypeId} {S : RdS} {rs : List PR} {c0 a0 : Int} (h : LineSt X base w0 w x0 t S rs c0 a0) (hX : X x0.block) (hr : rs.length ≤ 40)
    {l : List UInt8} (hl : l.length ≤ 1048576) {a : Nat} (ha : a ≤ 1048576) :
    Calls Tryd.prog F.ptr_s_txRead_line #[.pointer (some x0), .string (mkS l), .int .i64 (a : Int)] w (Ret [.at .bool] fun (ok : Bool) w' => ∃ S' c1 a1,
      (ok = true ∧ rs.length < 40 ∧ ∃ r, rowQ (wordsG l a 0) a = .ok r ∧ LineSt X base w0 w' x0 t S' (rs ++ [r]) c1 a1) ∨
      (ok = false ∧ (∀ L, rowsP ((l, a) :: L) rs = .error (a1, c1)) ∧ Box w' x0 t (bxS S' c1 a1) ∧ Chg w0 w' (DY X base x0))) := by
  refine C_ptr_s_txRead_line ?_
  unfold V_ptr_s_txRead_line
  have hlen := h.rows.lens
  have hGl : S.G.length = rs.length := by rw [h.lines]; simp
  refine LD_bs3' h.box ?_
  rw [h.st.rG.len, hGl]
  refine cond_eq (fun e40 => ?_) (fun n40 => ?_)
  · refine call (fail_ok h.box 3 (a : Int)) ?_
    rintro _ w1 ⟨rfl, hC1, hb1⟩
    refine ⟨S, 3, a, .inr ⟨rfl, fun L => ?_, hb1, h.chg.trans (dy_box hC1)⟩⟩
    unfold rowsP
    rw [if_pos (by omega)]
  · have hlt : rs.length < 40 := by omega
    have ha64 : I64 (a : Int) := by unfold I64; omega
    have h064 : I64 (0 : Int) := by unfold I64; omega
    have dx : ∀ {w1 w2 : World}, Chg w1 w2 (DX X base) → ∀ {cs : List Value}, Box w1 x0 t cs → Box w2 x0 t cs := fun hC _ hb => hb.chg hC fun hd => hd.1 hX
    refine LD_bs3' h.box ?_
    refine h.st.moreG a ha64 (by omega) fun g1 w3 h3 hC3 => ?_
    refine h3.box1 (p := x0) (dx hC3 h.box) hX (i := 3) (by simp) rfl fun w4 h4 hC4 hb4 => ?_
    refine LD_bs5' hb4 (h4.moreF a ha64 (by show S.H.length ≤ _; omega) fun f1 w6 h6 hC6 => ?_)
    refine h6.box1 (p := x0) (dx hC6 hb4) hX (i := 5) (by simp) rfl fun w7 h7 hC7 hb7 => ?_
    refine LD_bs4' hb7 (h7.moreP (by show S.P.length ≤ _; omega) fun p1 w9 h9 hC9 => ?_)
    refine h9.box1 (p := x0) (dx hC9 hb7) hX (i := 4) (by simp) rfl fun w10 h10 hC10 hb10 => ?_
    rw [add_zero']
    refine LD_bs0 hb10 (h10.moreE (by show S.E.length ≤ _; omega) fun x1 w12 h12 hC12 => ?_)
    refine h12.box1 (p := x0) (dx hC12 hb10) hX (i := 0) (by simp) rfl fun w13 h13 hC13 hb13 => ?_
    refine LD_bs1 hb13 (h13.moreY 0 h064 (by show S.I.length ≤ _; omega) fun y1 w15 h15 hC15 => ?_)
    refine h15.box1 (p := x0) (dx hC15 hb13) hX (i := 1) (by simp) rfl fun w16 h16 hC16 hb16 => ?_
    refine LD_bs2 hb16 (h16.moreZ 0 h064 (by show S.N.length ≤ _; omega) fun z1 w18 h18 hC18 => ?_)
    refine h18.box1 (p := x0) (dx hC18 hb16) hX (i := 2) (by simp) rfl fun w19 h19 hC19 hb19 => ?_
    have hChg : Chg w0 w19 (DY X base x0) := h.chg.trans ((dy_of hC3).trans ((dy_box hC4).trans ((dy_of hC6).trans ((dy_box hC7).trans ((dy_of hC9).trans ((dy_box hC10).trans ((dy_of hC12).trans ((dy_box hC13).trans ((dy_of hC15).trans ((dy_box hC16).trans ((dy_of hC18).trans (dy_box hC19))))))))))))
    have hM0 := h.rows.start x1 y1 z1 f1 p1 (a : Int)
    -- the state after the row's beginning
    obtain ⟨S1, hS1, hb1, hM1, hG1⟩ : ∃ S1, St X base w19 S1 [] [] [] ∧ Box w19 x0 t (bxS S1 c0 a0) ∧ MidR rs S1 0 0 (a : Int) [] [] ∧ S1.G = (rs.map (·.lat)) ++ [(a : Int)] :=
      ⟨_, h19, hb19, ⟨hM0.ends, hM0.ids, hM0.inp, hM0.ports, hM0.fst, hM0.len⟩, by show S.G ++ _ = _; rw [h.lines]⟩
    have hG1l : S1.G.length = rs.length + 1 := by rw [hG1]; simp
    have hq := refW_eq a (wordsG l a 0)
    refine ⟨fun c i w' => ∃ k j : Nat, c = k ∧ i = j ∧ k ≤ j ∧ j ≤ l.length ∧ ∃ S2 id inp f es ps c2 a2, WordSt X base w0 w' x0 t S1 S2 c2 a2 ∧ MidR rs S2 id inp f es ps ∧ 0 ≤ id ∧ refW a k id inp f es ps (wordsG l a j) = rowQ (wordsG l a 0) a,
      fun _ i _ => l.length - i.toNat, ⟨0, 0, rfl, rfl, Nat.le_refl _, Nat.zero_le _, S1, 0, 0, _, [], [], c0, a0, ⟨hS1, hb1, rfl, hChg⟩, hM1, by omega, hq⟩, ?_⟩
    rintro _ _ w20 ⟨k, j, rfl, rfl, hkj, hj, S2, id, inp, f, es, ps, c2, a2, h2, hM2, hid, hq2⟩
    intros
    rw [mkS_size]
    have hG2 : S2.G.length = rs.length + 1 := by rw [h2.lines, hG1l]
    refine cond_dec (fun hlt2 => ?_) (fun hge => ?_)
    · have hj' : j < l.length := by omega
      refine SIX_of hj' ?_
      refine cond_eq (fun e32 => ?_) (fun n32 => ?_)
      · have hb : l[j] = 32 := UInt8.toNat_inj.1 (by have : (32 : UInt8).toNat = 32 := rfl; omega)
        rw [wrap_of (n := (j : Int) + 1) (by omega) (by omega)]
        refine ⟨⟨k, j + 1, rfl, by omega, by omega, by omega, S2, id, inp, f, es, ps, c2, a2, h2, hM2, hid, ?_⟩, by simp only []; omega⟩
        rw [← wordsG_skip hj' hb]; exact hq2
      · have hb : l[j] ≠ 32 := fun e => n32 (by rw [e]; rfl)
        have hgt := endG_gt hj' hb
        have hle := endG_le (c := 32) (show j ≤ l.length by omega)
        rw [wordsG_word hj' hb] at hq2
        repeat' (with_reducible refine dropVi ?_)
        refine endLoop (c := 32) (by omega) hl rfl ?_
        unfold V_ptr_s_txRead_line_k5
        rw [wrap_of (n := (a : Int) + (j : Int)) (by omega) (by omega), wrap_of (n := (k : Int) + 1) (by omega) (by omega)]
        refine RUN_sub und_str (by omega) hle.2 ?_
        have e0 : (a : Int) + (j : Int) = ((a + j : Nat) : Int) := by omega
        rw [e0]
        have hsl : (seg l j (endG 32 l j)).length = endG 32 l j - j := seg_len hle.2
        refine call (word_ok h2 hX hM2 hid hG2 hr (l := seg l j (endG 32 l j)) (by omega) (by omega) (a := a + j) (by omega) a) ?_
        rintro ok w24 ⟨S3, c3, a3, h3, hA⟩
        rcases hA with ⟨rfl, id', inp', f', es', ps', hM3, hid3, hT⟩ | ⟨rfl, hT⟩
        · refine cond_f rfl ⟨⟨k + 1, endG 32 l j, by omega, rfl, by omega, hle.2, S3, id', inp', f', es', ps', c3, a3, h3, hM3, hid3, ?_⟩, by simp only []; omega⟩
          rw [← hT]; exact hq2
        · refine cond_t rfl ⟨S3, c3, a3, .inr ⟨rfl, fun L => ?_, h3.box, h3.chg⟩⟩
          rw [hT] at hq2
          unfold rowsP
          rw [if_neg (by omega), ← hq2]
    · have : j = l.length := by omega
      subst this
      rw [wordsG_end (by omega)] at hq2
      refine ⟨S2, c2, a2, .inl ⟨rfl, hlt, _, hq2.symm, ⟨h2.st, h2.box, hM2.done (fun hne => (if_neg hne).symm), ?_, h2.chg⟩⟩⟩
      rw [h2.lines, hG1, List.map_append]; rfl

end Go.Proofs.YtcldmpllpfojhaaDoor
end

section
/- Reading a network's text, the program's side: the ports of a line, its input. -/
namespace Go.Proofs.YtcldmpllpfojhaaDoor
open Go.GX Go.RowKit
set_option maxRecDepth 100000

@[reducible] def bxI (S : RdS) (ls : Sl) (any : Bool) : List Value := [S.x.v, S.y.v, S.z.v, ls.v, S.f.v, S.p.v, .bool any]
/-- What may change. -/
def DZ (base : Nat) (x0 : Addr) (b : Nat) : Prop := base ≤ b ∨ b = x0.block
theorem dz_of {X : Nat → Prop} {base : Nat} {p : Addr} {w w' : World} (h : Chg w w' (DX X base)) : Chg w w' (DZ base p) := h.mono fun _ hb => .inl hb.2
theorem dz_box {base : Nat} {p : Addr} {w w' : World} (h : Chg w w' (fun b => b = p.block)) : Chg w w' (DZ base p) := h.mono fun _ => .inr
theorem dz_high {base : Nat} {p q : Addr} (hq : base ≤ q.block) {w w' : World} (h : Chg w w' (fun b => b = q.block)) : Chg w w' (DZ base p) := h.mono fun b hb => .inl (by rw [hb]; exact hq)

theorem one2s (x : ByteArray) (y : Int) : ∀ v ∈ [Value.string x, Value.int .i64 y], v.oneCell' = true := by intro v hv; simp at hv; rcases hv with rfl | rfl <;> rfl

/-- A slice's last elements. -/
theorem slr_behind {α : Type} [RepP α] {D : Nat → Prop} {w : World} {s : Sl} {l : List α} (h : SlR D w s l) {i : Nat} (hi : i ≤ l.length) {sz : Nat} (hsz : sz = Rep.sz α) {K : Sl → Prop} (hk : ∀ s', SlR D w s' (l.drop i) → K s') : SLC s (some (i : Int)) none sz K := by
  subst hsz
  have h1 := h.1
  have h2 := h.2.1
  refine SLC_from' h2.1 (by omega) fun d hd hc ha => hk d ⟨by simp; omega, by omega, fun j x hx => ?_⟩
  rw [List.getElem?_drop] at hx
  have hlt := (List.getElem?_eq_some_iff.1 hx).1
  obtain ⟨a, cs, e1, e2, e3, e4⟩ := h.2.2 (i + j) x hx
  refine ⟨a.add (i * Rep.sz α), cs, by rw [ha (by omega), e1]; rfl, by rw [add_block]; exact e2, e3, fun t v ht => ?_⟩
  rw [add_add, show i * Rep.sz α + (j * Rep.sz α + t) = (i + j) * Rep.sz α + t by rw [Nat.add_mul]; omega]
  exact e4 t v ht

/-- The state within a line. -/
structure RowI (X : Nat → Prop) (base : Nat) (w0 w : World) (x0 p4 : Addr) (S : RdS) (ls : Sl) (any : Bool) : Prop where
  st : St X base w S [] [] []
  box : Box w x0 T.t_i_networkReader (bxI S ls any)
  flt : Box w p4 T.t_i_fault [.int .i64 0, .int .i64 0]
  chg : Chg w0 w (DZ base x0)
/-- What holds of a line's variables. -/
structure RowX (X : Nat → Prop) (base : Nat) (x0 p4 : Addr) : Prop where
  inX : X x0.block
  in4 : X p4.block
  high : base ≤ p4.block
  ne : x0.block ≠ p4.block

section
variable {X : Nat → Prop} {base : Nat} {w0 w w' : World} {x0 p4 : Addr} {S : RdS} {ls : Sl} {any : Bool}
theorem RowI.ext (h : RowI X base w0 w x0 p4 S ls any) (hE : Ext w w') : RowI X base w0 w' x0 p4 S ls any :=
  ⟨h.st.ext hE, h.box.ext hE, h.flt.ext hE, h.chg.trans (.of_ext hE)⟩
/-- The fault is written and read. -/
theorem RowI.done (h : RowI X base w0 w x0 p4 S ls any) (hX : RowX X base x0 p4) (a c : Int) {Q : Int → Int → World → Prop} (hk : ∀ w', St X base w' S [] [] [] → Box w' x0 T.t_i_networkReader (bxI S ls any) → Chg w0 w' (DZ base x0) → Q a c w') :
    GX.ST p4 0 [.int .i64 a, .int .i64 c] w fun w' => LD [.int .i64, .int .i64] p4 w' fun (x y : Int) => Q x y w' := by
  refine ST_all h.flt (Go.GX.one2 _ _) rfl fun w' hs _ hb => LD_box2 hb ?_
  have hC : Chg w w' (fun b => b = p4.block) := .of_step hs fun k hk => by cases hk; rfl
  exact hk w' (h.st.other hC fun b hb => by rw [hb]; exact hX.in4) (h.box.chg hC hX.ne) (h.chg.trans (dz_high hX.high hC))
end

theorem linePorts {X XW : Nat → Prop} {base : Nat} {w0 w : World} {x0 p4 : Addr} {S : RdS} {ls : Sl} {any : Bool} (h : RowI X base w0 w x0 p4 S ls any) (hX : RowX X base x0 p4) (hg : ∀ w', Chg w0 w' (DZ base x0) → GV w')
    {rs : List PR} {id inp f : Int} {es : List (Int × Int)} {ps : List Int} (hM : MidR rs S id inp f es ps) {s x19 : Sl} {ws : List Wd} (hW : SlR XW w s (ws.map wrec)) (hXW : ∀ b, XW b → X b ∧ b ≠ x0.block) (hx : x19.len = rs.length)
    (hws : ∀ x ∈ ws, x.1.length ≤ 1048576 ∧ x.2 ≤ 2097152) {Q : Int → Int → World → Prop}
    (hok : ∀ S' w' es' ps', portsD ws es ps = .ok (es', ps') → St X base w' S' [] [] [] → Box w' x0 T.t_i_networkReader (bxI S' ls any) → Chg w0 w' (DZ base x0) → MidR rs S' id inp f es' ps' → Q 0 0 w')
    (hbad : ∀ a c w', portsD ws es ps = .error (a, c) → c ≠ 0 → Chg w0 w' (DZ base x0) → Q a c w') : V_ptr_i_networkReader_line_k3 x0 Q p4 x19 s w := by
  unfold V_ptr_i_networkReader_line_k3
  rw [hW.len, List.length_map, hx]
  refine ⟨IN ws.length fun i w' => ∃ S' es' ps', RowI X base w0 w' x0 p4 S' ls any ∧ MidR rs S' id inp f es' ps' ∧ SlR XW w' s (ws.map wrec) ∧ portsD (ws.drop i) es' ps' = portsD ws es ps, MN ws.length, IN_zero ⟨S, es, ps, h, hM, hW, rfl⟩, ?_⟩
  rintro _ w2 ⟨i, rfl, hi, S2, es2, ps2, h2, hM2, hW2, hD2⟩
  intros
  have hwl : ws.length ≤ 9223372036854775807 := by have := hW.le; rwa [List.length_map] at this
  refine cond_dec (fun hlt => ?_) (fun hge => ?_)
  · have hi' : i < ws.length := by omega
    obtain ⟨hwi1, hwi2⟩ := hws _ (List.getElem_mem hi')
    refine SlR_ixW hW2 hi' fun p hc0 hc1 => LD_si hc0 hc1 ?_
    refine NEW_ST (one2s _ _) rfl fun p12 w3 hp12 hE3 hb12 => ?_
    refine LD_str (hb12.cell (i := 0) rfl) ?_
    refine call (ParsePort_ok (hg _ (h2.chg.trans (.of_ext hE3))) hwi1) ?_
    rintro e1 e2 ok w5 ⟨hE5, hp⟩
    refine NEW_ST (Go.GX.one2 _ _) rfl fun p13 w6 hp13 hE6 hb13 => ?_
    have hE26 := (hE3.trans hE5).trans hE6
    have h4 := h2.ext hE26
    have hb12' := hb12.ext (hE5.trans hE6)
    have hdrop : ws.drop i = ws[i] :: ws.drop (i + 1) := List.drop_eq_getElem_cons hi'
    obtain ⟨⟨wd, at1⟩, hwd⟩ : ∃ x, x = ws[i] := ⟨_, rfl⟩
    rw [← hwd] at hdrop hb12' hp hwi2
    simp only at hb12' hp hwi2
    rw [hdrop] at hD2
    have h64 : I64 (at1 : Int) := by unfold I64; omega
    rcases hp with ⟨rfl, hp⟩ | ⟨rfl, hp⟩
    · refine cond_f rfl (LD_bs0 h4.box (h4.st.rowE hM2.getE fun p2 r2 hc2 hr2 => LD_sl hc2 ?_))
      rw [hr2.len]
      have hlen := hM2.len
      refine cond_eq (fun h6 => ?_) (fun h6 => ?_)
      · refine LD_int (hb12'.cell (i := 1) rfl) (h4.done hX _ 3 fun w' _ _ hC => hbad _ _ w' ?_ (by decide) hC)
        rw [← hD2, portsD, hp]
        simp only []
        rw [if_pos (by omega)]
      · intro w7 hE7 _
        have hE27 := hE26.trans hE7
        have h5 := h2.ext hE27
        have hb12a := hb12'.ext hE7
        have hb13a := hb13.ext hE7
        have hrg := portD_range hp
        have hz2 : w2.heap.size ≤ p12.block := by omega
        have hst : St (fun b => X b ∨ b = p12.block) base w7 S2 [] [] [] := h2.st.grow hE27 fun b hb => by
          rcases hb with hb | rfl
          · exact .inl hb
          · exact .inr ⟨hz2, hb12a.lt⟩
        obtain ⟨r, D, hXD, hix, hrl, hrun⟩ := hst.snocE hM2.getE (by omega) (e1, e2) ⟨by show I64 _; unfold I64; omega, by show I64 _; unfold I64; omega⟩
        refine ⟨D, hXD _ (.inl hX.inX), LD_bs0 h5.box ⟨hXD _ (.inl hX.inX), LD_bs0 h5.box (hix _ fun q1 hq hD => ⟨hD, LD_sl hq (LD_box2 hb13a ?_)⟩)⟩⟩
        refine hrun _ fun w8 hS8 hC8 => ?_
        have hb8 := h5.box.chg hC8 fun hd => hd.1 (.inl hX.inX)
        have hf8 := h5.flt.chg hC8 fun hd => hd.1 (.inl hX.in4)
        have hb12b := hb12a.chg hC8 fun hd => hd.1 (.inr rfl)
        have hW8 := (hW2.ext hE27).chg hC8 fun b hb _ hd => hd.1 (.inl (hXW b hb).1)
        intro w9 hE9 _
        have hS9 := hS8.ext hE9
        have hb9 := hb8.ext hE9
        have hb12c := hb12b.ext hE9
        obtain ⟨r', D', hXD', hix', hrl', hrun'⟩ := hS9.snocP hM2.getP (by omega) (at1 : Int) h64
        refine ⟨D', hXD' _ (.inl hX.inX), LD_bs5' hb9 ⟨hXD' _ (.inl hX.inX), LD_bs5' hb9 (hix' _ fun q1 hq hD => ⟨hD, LD_sl hq ⟨Chg.refl _ _, LD_int (hb12c.cell (i := 1) rfl) ?_⟩⟩)⟩⟩
        refine hrun' _ fun w10 hS10 hC10 => ?_
        refine IN_next hwl hi' ⟨_, _, _, ⟨hS10.less fun b hb => .inl hb, hb9.chg hC10 fun hd => hd.1 (.inl hX.inX), (hf8.ext hE9).chg hC10 fun hd => hd.1 (.inl hX.in4), (h5.chg.trans (dz_of hC8)).trans ((Chg.of_ext hE9).trans (dz_of hC10))⟩, hM2.push (e1, e2) (at1 : Int) (by omega), (hW8.ext hE9).chg hC10 fun b hb _ hd => hd.1 (.inl (hXW b hb).1), ?_⟩
        rw [← hD2]
        conv => rhs; unfold portsD
        rw [hp]
        simp only []
        rw [if_neg (by omega)]
    · refine cond_t rfl (LD_int (hb12'.cell (i := 1) rfl) (h4.done hX _ 2 fun w' _ _ hC => hbad _ _ w' ?_ (by decide) hC))
      rw [← hD2, portsD, hp]
  · have : i = ws.length := by omega
    subst this
    rw [List.drop_length] at hD2
    exact h2.done hX 0 0 fun w' hS hb hC => hok S2 w' es2 ps2 (by rw [← hD2]; rfl) hS hb hC hM2

theorem lineInput {X XW : Nat → Prop} {base : Nat} {w0 w : World} {x0 p4 : Addr} {S : RdS} {ls : Sl} {any : Bool} (h : RowI X base w0 w x0 p4 S ls any) (hX : RowX X base x0 p4) (hg : ∀ w', Chg w0 w' (DZ base x0) → GV w')
    {rs : List PR} {id f : Int} (hM : MidR rs S id 0 f [] []) {s x19 : Sl} {ws : List Wd} (hW : SlR XW w s (ws.map wrec)) (hXW : ∀ b, XW b → X b ∧ b ≠ x0.block) (hx : x19.len = rs.length)
    (hws : ∀ x ∈ ws, x.1.length ≤ 1048576 ∧ x.2 ≤ 2097152 ∧ 0 < x.1.length) {Q : Int → Int → World → Prop}
    (hok : ∀ S' w' es' ps', portsD (inpD ws).2 [] [] = .ok (es', ps') → St X base w' S' [] [] [] → Box w' x0 T.t_i_networkReader (bxI S' ls any) → Chg w0 w' (DZ base x0) → MidR rs S' id (inpD ws).1 f es' ps' → Q 0 0 w')
    (hbad : ∀ a c w', portsD (inpD ws).2 [] [] = .error (a, c) → c ≠ 0 → Chg w0 w' (DZ base x0) → Q a c w') : V_ptr_i_networkReader_line_k2 x0 Q p4 x19 s w := by
  unfold V_ptr_i_networkReader_line_k2
  rw [hW.len, List.length_map, mk_lit [47]]
  match ws, hW, hws, hok, hbad with
  | [], hW, hws, hok, hbad =>
    refine cond_df (by simp) ?_
    exact linePorts h hX hg hM hW hXW hx (fun x hx' => ⟨(hws x hx').1, (hws x hx').2.1⟩) hok hbad
  | (wd, at1) :: tw, hW, hws, hok, hbad =>
    refine cond_dt (by simp only [List.length_cons]; omega) ?_
    obtain ⟨hw1, hw2, hw3⟩ := hws _ (List.mem_cons_self ..)
    obtain ⟨b, tl, rfl⟩ := List.exists_cons_of_ne_nil (List.length_pos_iff.1 hw3)
    refine SlR_ixW hW (i := 0) (by simp) fun p hc0 _ => LD_str hc0 ?_
    refine call (marked_ok (hg _ h.chg) (c := 47) (lo := 0) (hi := 9) (by simp at hw1; omega) rfl rfl) ?_
    rintro n ok w3 ⟨hE3, hm⟩
    have h3 := h.ext hE3
    have hW3 := hW.ext hE3
    rcases hm with ⟨rfl, hm, hn⟩ | ⟨rfl, hm⟩
    · refine cond_t rfl ?_
      have hin : inpD ((b :: tl, at1) :: tw) = (n, tw) := by
        show (match markD 47 0 9 (b :: tl) with | some n => ((n : Int), tw) | none => (0, (b :: tl, at1) :: tw)) = _
        rw [hm, ← hn]
        simp
      rw [hin] at hok hbad
      obtain ⟨_, _, _, hr1, hr2⟩ := markD_some.1 hm
      refine LD_bs2 h3.box (by
        rw [hx]
        refine h3.st.ixZ (v := rs.length) (by rw [hM.lenN]; omega) fun q hq => h3.st.stZ (by rw [hM.lenN]; omega) hq (by show I64 _; unfold I64; omega) fun w4 hS4 hC4 => ?_
        have hW4 := hW3.chg hC4 fun b hb _ hd => hd.1 (hXW b hb).1
        refine slr_behind (i := 1) hW4 (by simp) rfl fun s' hs' => ?_
        have hs2 : SlR XW w4 s' (tw.map wrec) := hs'
        exact linePorts ⟨hS4, h3.box.chg hC4 fun hd => hd.1 hX.inX, h3.flt.chg hC4 fun hd => hd.1 hX.in4, h3.chg.trans (dz_of hC4)⟩ hX hg (hM.setN n) hs2 hXW hx (fun x hx' => ⟨(hws x (by simp [hx'])).1, (hws x (by simp [hx'])).2.1⟩) hok hbad)
    · refine cond_f rfl ?_
      have hin : inpD ((b :: tl, at1) :: tw) = (0, (b :: tl, at1) :: tw) := by
        show (match markD 47 0 9 (b :: tl) with | some n => ((n : Int), tw) | none => (0, (b :: tl, at1) :: tw)) = _
        rw [hm]
      rw [hin] at hok hbad
      exact linePorts h3 hX hg hM hW3 hXW hx (fun x hx' => ⟨(hws x hx').1, (hws x hx').2.1⟩) hok hbad

end Go.Proofs.YtcldmpllpfojhaaDoor
end

section
/- Reading a network's text, the program's side: a line. -/
namespace Go.Proofs.YtcldmpllpfojhaaDoor
open Go.GX Go.RowKit
set_option maxRecDepth 100000
set_option maxHeartbeats 1000000

/-- The state between two lines. -/
structure LineI (X : Nat → Prop) (base : Nat) (w0 w : World) (x0 : Addr) (S : RdS) (ls : Sl) (any : Bool) (rs : List PR) : Prop where
  st : St X base w S [] [] []
  box : Box w x0 T.t_i_networkReader (bxI S ls any)
  rows : RowsR rs S
  any : any = true ↔ ¬ NoIds rs
  chg : Chg w0 w (DZ base x0)
theorem LineI.ext {X : Nat → Prop} {base : Nat} {w0 w w' : World} {x0 : Addr} {S : RdS} {ls : Sl} {any : Bool} {rs : List PR} (h : LineI X base w0 w x0 S ls any rs) (hE : Ext w w') : LineI X base w0 w' x0 S ls any rs :=
  ⟨h.st.ext hE, h.box.ext hE, h.rows, h.any, h.chg.trans (.of_ext hE)⟩

theorem noIds_snoc {rs : List PR} {r : PR} : ¬ NoIds (rs ++ [r]) ↔ (¬ NoIds rs ∨ r.id ≠ 0) := by
  unfold NoIds
  constructor
  · intro h
    by_cases h1 : ∀ r ∈ rs, r.id = 0
    · refine .inr fun h2 => h fun q hq => ?_
      rcases List.mem_append.1 hq with hq | hq
      · exact h1 q hq
      · rw [List.mem_singleton.1 hq]; exact h2
    · exact .inl h1
  · rintro (h | h) h2
    · exact h fun q hq => h2 q (by simp [hq])
    · exact h (h2 r (by simp))

/-- What a line answers. -/
def LineAns (X : Nat → Prop) (base : Nat) (w0 : World) (x0 : Addr) (ls : Sl) (rs : List PR) (l : List UInt8) (a : Nat) (f c : Int) (w' : World) : Prop :=
  (c = 0 ∧ f = 0 ∧ rs.length < 40 ∧ ∃ r S' any', rowQ (wordsG l a 0) a = .ok r ∧ LineI X base w0 w' x0 S' ls any' (rs ++ [r])) ∨
  (c ≠ 0 ∧ (∀ L, rowsP ((l, a) :: L) rs = .error (f, c)) ∧ Chg w0 w' (DZ base x0))

theorem lineTail {X X' XW : Nat → Prop} {base : Nat} {w0 w : World} {x0 p4 : Addr} {S : RdS} {ls : Sl} {any : Bool} (h : RowI X' base w0 w x0 p4 S ls any) (hX : RowX X' base x0 p4) (hXX : ∀ b, X b → X' b) (hg : ∀ w', Chg w0 w' (DZ base x0) → GV w')
    {rs : List PR} {l : List UInt8} {a : Nat} {id f f0 : Int} {ws : List Wd} (hid : idD (wordsG l a 0) = (id, f0, ws)) (hf : id ≠ 0 → f = f0) (hany : any = true ↔ (¬ NoIds rs ∨ id ≠ 0)) (h40 : rs.length < 40)
    (hM : MidR rs S id 0 f [] []) {s x19 : Sl} (hW : SlR XW w s (ws.map wrec)) (hXW : ∀ b, XW b → X' b ∧ b ≠ x0.block) (hx : x19.len = rs.length)
    (hws : ∀ x ∈ ws, x.1.length ≤ 1048576 ∧ x.2 ≤ 2097152 ∧ 0 < x.1.length) : V_ptr_i_networkReader_line_k2 x0 (LineAns X base w0 x0 ls rs l a) p4 x19 s w := by
  refine lineInput h hX hg hM hW hXW hx hws (fun S' w' es' ps' hp hS hb hC hM' => ?_) (fun a' c w' hp hc hC => ?_)
  · refine .inl ⟨rfl, rfl, h40, ⟨es', id, (inpD ws).1, f0, ps', (a : Int)⟩, S', any, ?_, ⟨hS.less hXX, hb, hM'.done hf, ?_, hC⟩⟩
    · unfold rowQ
      rw [hid]
      simp only []
      rw [hp]; rfl
    · rw [noIds_snoc]; exact hany
  · refine .inr ⟨hc, fun L => ?_, hC⟩
    unfold rowsP rowQ
    rw [if_neg (by omega), hid]
    simp only []
    rw [hp]; rfl

theorem iLine_ok {X : Nat → Prop} {base : Nat} {w0 w : World} {x0 : Addr} {S : RdS} {ls : Sl} {any : Bool} {rs : List PR} (h : LineI X base w0 w x0 S ls any rs) (hX : X x0.block) (hg : ∀ w', Chg w0 w' (DZ base x0) → GV w') (hr : rs.length ≤ 40)
    {l : List UInt8} (hl : l.length ≤ 1048576) {a : Nat} (ha : a ≤ 1048576) :
    Calls Tryd.prog F.ptr_i_networkReader_line #[.pointer (some x0), .agg #[.string (mkS l), .int .i64 (a : Int)]] w (Ret [.agg [.int .i64, .int .i64]] (LineAns X base w0 x0 ls rs l a)) := by
  refine C_ptr_i_networkReader_line ?_
  unfold V_ptr_i_networkReader_line
  obtain ⟨hlE, hlI, hlN, hlP, hlH⟩ := h.rows.lens
  have ha64 : I64 (a : Int) := by unfold I64; omega
  have h064 : I64 (0 : Int) := by unfold I64; omega
  refine NEW_intro fun p3 w1 hp3 hs1 hE1 hb3 => NEW_intro fun p4 w2 hp4 hs2 hE2 hb4 => ?_
  have hE02 := hE1.trans hE2
  have hb32 := hb3.ext hE2
  have hbs := h.st.bs
  have hz1 := hE1.size_le
  have hl0 := h.box.lt
  have hX' : RowX (fun b => X b ∨ b = p3.block ∨ b = p4.block) base x0 p4 := ⟨.inl hX, .inr (.inr rfl), by omega, by omega⟩
  have h2 : RowI (fun b => X b ∨ b = p3.block ∨ b = p4.block) base w0 w2 x0 p4 S ls any := ⟨h.st.grow hE02 fun b hb => by
    rcases hb with hb | rfl | rfl
    · exact .inl hb
    · exact .inr ⟨by omega, hb32.lt⟩
    · exact .inr ⟨by omega, hb4.lt⟩, h.box.ext hE02, hb4, h.chg.trans (.of_ext hE02)⟩
  refine LD_bs0 h2.box ?_
  have hx19 : S.x.len = rs.length := by rw [h2.st.rEnds.len, hlE]
  rw [hx19]
  refine cond_eq (fun e40 => ?_) (fun n40 => ?_)
  · refine LD_int (hb32.cell (i := 1) rfl) (h2.done hX' _ 3 fun w' _ _ hC => .inr ⟨by decide, fun L => ?_, hC⟩)
    unfold rowsP
    rw [if_pos (by omega)]
  have h40 : rs.length < 40 := by omega
  -- a row is begun
  refine ⟨fun w' => ∃ x1 y1 z1, St (fun b => X b ∨ b = p3.block ∨ b = p4.block) base w' { S with x := x1, E := S.E ++ [[]], y := y1, I := S.I ++ [0], z := z1, N := S.N ++ [0] } [] [] [] ∧
    Box w' x0 T.t_i_networkReader [x1.v, y1.v, z1.v, ls.v, S.f.v, S.p.v, .bool any] ∧ Chg w2 w' (DY (fun b => X b ∨ b = p3.block ∨ b = p4.block) base x0), ?_, ?_⟩
  · intro w4 hE4 _
    have h4 := h2.ext hE4
    refine ⟨DX (fun b => X b ∨ b = p3.block ∨ b = p4.block) base, fun hd => hd.1 hX'.inX, LD_bs0 h4.box ⟨fun hd => hd.1 hX'.inX, LD_bs1 h4.box ⟨fun hd => hd.1 hX'.inX, LD_bs2 h4.box ?_⟩⟩⟩
    have hb4' := h4.box
    have hC4 : Chg w2 w4 (DY (fun b => X b ∨ b = p3.block ∨ b = p4.block) base x0) := dy_ext hE4
    have h := h4.st
    have hC : Chg w4 w4 (DX (fun b => X b ∨ b = p3.block ∨ b = p4.block) base) := Chg.refl _ _
    have hE' : S.E.length ≤ 1000 := by omega
    have hI' : S.I.length ≤ 1000 := by omega
    have hN' : S.N.length ≤ 1000 := by omega
    clear h4
    refine ⟨?_, ?_, ?_⟩
    · skip
      refine h.litE hC fun yE _ h hC => ?_
      refine ⟨?_, ?_, ?_⟩
      · skip
        refine h.appE (y1 := yE) (by simp) hE' hC fun sE _ h hC => ?_
        refine ⟨?_, ?_⟩
        · skip
          refine h.litI 0 h064 hC fun yI _ h hC => ?_
          refine ⟨?_, ?_⟩
          · skip
            refine h.appY (y1 := yI) (n := 0) (by simp) hI' hC fun sI _ h hC => ?_
            refine h.litI 0 h064 hC fun yN _ h hC => ?_
            refine h.appZ (y1 := yN) (n := 0) (by simp) hN' hC fun sN _ h hC => ?_
            have hb := hb4'.chg hC fun hd => hd.1 hX'.inX
            exact h.drop.box1 (p := x0) hb hX'.inX (i := 0) (by simp) rfl fun _ h hC1 hb => h.box1 (p := x0) hb hX'.inX (i := 1) (by simp) rfl fun _ h hC2 hb => h.box1 (p := x0) hb hX'.inX (i := 2) (by simp) rfl fun _ h hC3 hb => ⟨_, _, _, h, hb, hC4.trans ((dy_of hC).trans ((dy_box hC1).trans ((dy_box hC2).trans (dy_box hC3))))⟩
          · skip
            refine h.litI 0 h064 hC fun yN _ h hC => ?_
            refine h.appY (y1 := yI) (n := 0) (by simp) hI' hC fun sI _ h hC => ?_
            refine h.appZ (y1 := yN) (n := 0) (by simp) hN' hC fun sN _ h hC => ?_
            have hb := hb4'.chg hC fun hd => hd.1 hX'.inX
            exact h.drop.box1 (p := x0) hb hX'.inX (i := 0) (by simp) rfl fun _ h hC1 hb => h.box1 (p := x0) hb hX'.inX (i := 1) (by simp) rfl fun _ h hC2 hb => h.box1 (p := x0) hb hX'.inX (i := 2) (by simp) rfl fun _ h hC3 hb => ⟨_, _, _, h, hb, hC4.trans ((dy_of hC).trans ((dy_box hC1).trans ((dy_box hC2).trans (dy_box hC3))))⟩
        · skip
          refine h.litI 0 h064 hC fun yN _ h hC => ?_
          refine h.litI 0 h064 hC fun yI _ h hC => ?_
          refine h.appY (y1 := yI) (n := 0) (by simp) hI' hC fun sI _ h hC => ?_
          refine h.appZ (y1 := yN) (n := 0) (by simp) hN' hC fun sN _ h hC => ?_
          have hb := hb4'.chg hC fun hd => hd.1 hX'.inX
          exact h.drop.box1 (p := x0) hb hX'.inX (i := 0) (by simp) rfl fun _ h hC1 hb => h.box1 (p := x0) hb hX'.inX (i := 1) (by simp) rfl fun _ h hC2 hb => h.box1 (p := x0) hb hX'.inX (i := 2) (by simp) rfl fun _ h hC3 hb => ⟨_, _, _, h, hb, hC4.trans ((dy_of hC).trans ((dy_box hC1).trans ((dy_box hC2).trans (dy_box hC3))))⟩
      · skip
        refine h.litI 0 h064 hC fun yI _ h hC => ?_
        refine ⟨?_, ?_⟩
        · skip
          refine h.appE (y1 := yE) (by simp) hE' hC fun sE _ h hC => ?_
          refine ⟨?_, ?_⟩
          · skip
            refine h.appY (y1 := yI) (n := 0) (by simp) hI' hC fun sI _ h hC => ?_
            refine h.litI 0 h064 hC fun yN _ h hC => ?_
            refine h.appZ (y1 := yN) (n := 0) (by simp) hN' hC fun sN _ h hC => ?_
            have hb := hb4'.chg hC fun hd => hd.1 hX'.inX
            exact h.drop.box1 (p := x0) hb hX'.inX (i := 0) (by simp) rfl fun _ h hC1 hb => h.box1 (p := x0) hb hX'.inX (i := 1) (by simp) rfl fun _ h hC2 hb => h.box1 (p := x0) hb hX'.inX (i := 2) (by simp) rfl fun _ h hC3 hb => ⟨_, _, _, h, hb, hC4.trans ((dy_of hC).trans ((dy_box hC1).trans ((dy_box hC2).trans (dy_box hC3))))⟩
          · skip
            refine h.litI 0 h064 hC fun yN _ h hC => ?_
            refine h.appY (y1 := yI) (n := 0) (by simp) hI' hC fun sI _ h hC => ?_
            refine h.appZ (y1 := yN) (n := 0) (by simp) hN' hC fun sN _ h hC => ?_
            have hb := hb4'.chg hC fun hd => hd.1 hX'.inX
            exact h.drop.box1 (p := x0) hb hX'.inX (i := 0) (by simp) rfl fun _ h hC1 hb => h.box1 (p := x0) hb hX'.inX (i := 1) (by simp) rfl fun _ h hC2 hb => h.box1 (p := x0) hb hX'.inX (i := 2) (by simp) rfl fun _ h hC3 hb => ⟨_, _, _, h, hb, hC4.trans ((dy_of hC).trans ((dy_box hC1).trans ((dy_box hC2).trans (dy_box hC3))))⟩
        · skip
          refine h.litI 0 h064 hC fun yN _ h hC => ?_
          refine h.appE (y1 := yE) (by simp) hE' hC fun sE _ h hC => ?_
          refine h.appY (y1 := yI) (n := 0) (by simp) hI' hC fun sI _ h hC => ?_
          refine h.appZ (y1 := yN) (n := 0) (by simp) hN' hC fun sN _ h hC => ?_
          have hb := hb4'.chg hC fun hd => hd.1 hX'.inX
          exact h.drop.box1 (p := x0) hb hX'.inX (i := 0) (by simp) rfl fun _ h hC1 hb => h.box1 (p := x0) hb hX'.inX (i := 1) (by simp) rfl fun _ h hC2 hb => h.box1 (p := x0) hb hX'.inX (i := 2) (by simp) rfl fun _ h hC3 hb => ⟨_, _, _, h, hb, hC4.trans ((dy_of hC).trans ((dy_box hC1).trans ((dy_box hC2).trans (dy_box hC3))))⟩
      · skip
        refine h.litI 0 h064 hC fun yN _ h hC => ?_
        refine ⟨?_, ?_⟩
        · skip
          refine h.appE (y1 := yE) (by simp) hE' hC fun sE _ h hC => ?_
          refine h.litI 0 h064 hC fun yI _ h hC => ?_
          refine h.appY (y1 := yI) (n := 0) (by simp) hI' hC fun sI _ h hC => ?_
          refine h.appZ (y1 := yN) (n := 0) (by simp) hN' hC fun sN _ h hC => ?_
          have hb := hb4'.chg hC fun hd => hd.1 hX'.inX
          exact h.drop.box1 (p := x0) hb hX'.inX (i := 0) (by simp) rfl fun _ h hC1 hb => h.box1 (p := x0) hb hX'.inX (i := 1) (by simp) rfl fun _ h hC2 hb => h.box1 (p := x0) hb hX'.inX (i := 2) (by simp) rfl fun _ h hC3 hb => ⟨_, _, _, h, hb, hC4.trans ((dy_of hC).trans ((dy_box hC1).trans ((dy_box hC2).trans (dy_box hC3))))⟩
        · skip
          refine h.litI 0 h064 hC fun yI _ h hC => ?_
          refine h.appE (y1 := yE) (by simp) hE' hC fun sE _ h hC => ?_
          refine h.appY (y1 := yI) (n := 0) (by simp) hI' hC fun sI _ h hC => ?_
          refine h.appZ (y1 := yN) (n := 0) (by simp) hN' hC fun sN _ h hC => ?_
          have hb := hb4'.chg hC fun hd => hd.1 hX'.inX
          exact h.drop.box1 (p := x0) hb hX'.inX (i := 0) (by simp) rfl fun _ h hC1 hb => h.box1 (p := x0) hb hX'.inX (i := 1) (by simp) rfl fun _ h hC2 hb => h.box1 (p := x0) hb hX'.inX (i := 2) (by simp) rfl fun _ h hC3 hb => ⟨_, _, _, h, hb, hC4.trans ((dy_of hC).trans ((dy_box hC1).trans ((dy_box hC2).trans (dy_box hC3))))⟩
    · skip
      refine h.litI 0 h064 hC fun yI _ h hC => ?_
      refine ⟨?_, ?_⟩
      · skip
        refine h.litE hC fun yE _ h hC => ?_
        refine ⟨?_, ?_⟩
        · skip
          refine h.appE (y1 := yE) (by simp) hE' hC fun sE _ h hC => ?_
          refine ⟨?_, ?_⟩
          · skip
            refine h.appY (y1 := yI) (n := 0) (by simp) hI' hC fun sI _ h hC => ?_
            refine h.litI 0 h064 hC fun yN _ h hC => ?_
            refine h.appZ (y1 := yN) (n := 0) (by simp) hN' hC fun sN _ h hC => ?_
            have hb := hb4'.chg hC fun hd => hd.1 hX'.inX
            exact h.drop.box1 (p := x0) hb hX'.inX (i := 0) (by simp) rfl fun _ h hC1 hb => h.box1 (p := x0) hb hX'.inX (i := 1) (by simp) rfl fun _ h hC2 hb => h.box1 (p := x0) hb hX'.inX (i := 2) (by simp) rfl fun _ h hC3 hb => ⟨_, _, _, h, hb, hC4.trans ((dy_of hC).trans ((dy_box hC1).trans ((dy_box hC2).trans (dy_box hC3))))⟩
          · skip
            refine h.litI 0 h064 hC fun yN _ h hC => ?_
            refine h.appY (y1 := yI) (n := 0) (by simp) hI' hC fun sI _ h hC => ?_
            refine h.appZ (y1 := yN) (n := 0) (by simp) hN' hC fun sN _ h hC => ?_
            have hb := hb4'.chg hC fun hd => hd.1 hX'.inX
            exact h.drop.box1 (p := x0) hb hX'.inX (i := 0) (by simp) rfl fun _ h hC1 hb => h.box1 (p := x0) hb hX'.inX (i := 1) (by simp) rfl fun _ h hC2 hb => h.box1 (p := x0) hb hX'.inX (i := 2) (by simp) rfl fun _ h hC3 hb => ⟨_, _, _, h, hb, hC4.trans ((dy_of hC).trans ((dy_box hC1).trans ((dy_box hC2).trans (dy_box hC3))))⟩
        · skip
          refine h.litI 0 h064 hC fun yN _ h hC => ?_
          refine h.appE (y1 := yE) (by simp) hE' hC fun sE _ h hC => ?_
          refine h.appY (y1 := yI) (n := 0) (by simp) hI' hC fun sI _ h hC => ?_
          refine h.appZ (y1 := yN) (n := 0) (by simp) hN' hC fun sN _ h hC => ?_
          have hb := hb4'.chg hC fun hd => hd.1 hX'.inX
          exact h.drop.box1 (p := x0) hb hX'.inX (i := 0) (by simp) rfl fun _ h hC1 hb => h.box1 (p := x0) hb hX'.inX (i := 1) (by simp) rfl fun _ h hC2 hb => h.box1 (p := x0) hb hX'.inX (i := 2) (by simp) rfl fun _ h hC3 hb => ⟨_, _, _, h, hb, hC4.trans ((dy_of hC).trans ((dy_box hC1).trans ((dy_box hC2).trans (dy_box hC3))))⟩
      · skip
        refine h.litI 0 h064 hC fun yN _ h hC => ?_
        refine h.litE hC fun yE _ h hC => ?_
        refine h.appE (y1 := yE) (by simp) hE' hC fun sE _ h hC => ?_
        refine h.appY (y1 := yI) (n := 0) (by simp) hI' hC fun sI _ h hC => ?_
        refine h.appZ (y1 := yN) (n := 0) (by simp) hN' hC fun sN _ h hC => ?_
        have hb := hb4'.chg hC fun hd => hd.1 hX'.inX
        exact h.drop.box1 (p := x0) hb hX'.inX (i := 0) (by simp) rfl fun _ h hC1 hb => h.box1 (p := x0) hb hX'.inX (i := 1) (by simp) rfl fun _ h hC2 hb => h.box1 (p := x0) hb hX'.inX (i := 2) (by simp) rfl fun _ h hC3 hb => ⟨_, _, _, h, hb, hC4.trans ((dy_of hC).trans ((dy_box hC1).trans ((dy_box hC2).trans (dy_box hC3))))⟩
    · skip
      refine h.litI 0 h064 hC fun yN _ h hC => ?_
      refine ⟨?_, ?_⟩
      · skip
        refine h.litE hC fun yE _ h hC => ?_
        refine ⟨?_, ?_⟩
        · skip
          refine h.appE (y1 := yE) (by simp) hE' hC fun sE _ h hC => ?_
          refine h.litI 0 h064 hC fun yI _ h hC => ?_
          refine h.appY (y1 := yI) (n := 0) (by simp) hI' hC fun sI _ h hC => ?_
          refine h.appZ (y1 := yN) (n := 0) (by simp) hN' hC fun sN _ h hC => ?_
          have hb := hb4'.chg hC fun hd => hd.1 hX'.inX
          exact h.drop.box1 (p := x0) hb hX'.inX (i := 0) (by simp) rfl fun _ h hC1 hb => h.box1 (p := x0) hb hX'.inX (i := 1) (by simp) rfl fun _ h hC2 hb => h.box1 (p := x0) hb hX'.inX (i := 2) (by simp) rfl fun _ h hC3 hb => ⟨_, _, _, h, hb, hC4.trans ((dy_of hC).trans ((dy_box hC1).trans ((dy_box hC2).trans (dy_box hC3))))⟩
        · skip
          refine h.litI 0 h064 hC fun yI _ h hC => ?_
          refine h.appE (y1 := yE) (by simp) hE' hC fun sE _ h hC => ?_
          refine h.appY (y1 := yI) (n := 0) (by simp) hI' hC fun sI _ h hC => ?_
          refine h.appZ (y1 := yN) (n := 0) (by simp) hN' hC fun sN _ h hC => ?_
          have hb := hb4'.chg hC fun hd => hd.1 hX'.inX
          exact h.drop.box1 (p := x0) hb hX'.inX (i := 0) (by simp) rfl fun _ h hC1 hb => h.box1 (p := x0) hb hX'.inX (i := 1) (by simp) rfl fun _ h hC2 hb => h.box1 (p := x0) hb hX'.inX (i := 2) (by simp) rfl fun _ h hC3 hb => ⟨_, _, _, h, hb, hC4.trans ((dy_of hC).trans ((dy_box hC1).trans ((dy_box hC2).trans (dy_box hC3))))⟩
      · skip
        refine h.litI 0 h064 hC fun yI _ h hC => ?_
        refine h.litE hC fun yE _ h hC => ?_
        refine h.appE (y1 := yE) (by simp) hE' hC fun sE _ h hC => ?_
        refine h.appY (y1 := yI) (n := 0) (by simp) hI' hC fun sI _ h hC => ?_
        refine h.appZ (y1 := yN) (n := 0) (by simp) hN' hC fun sN _ h hC => ?_
        have hb := hb4'.chg hC fun hd => hd.1 hX'.inX
        exact h.drop.box1 (p := x0) hb hX'.inX (i := 0) (by simp) rfl fun _ h hC1 hb => h.box1 (p := x0) hb hX'.inX (i := 1) (by simp) rfl fun _ h hC2 hb => h.box1 (p := x0) hb hX'.inX (i := 2) (by simp) rfl fun _ h hC3 hb => ⟨_, _, _, h, hb, hC4.trans ((dy_of hC).trans ((dy_box hC1).trans ((dy_box hC2).trans (dy_box hC3))))⟩
  rintro w5 ⟨x1, y1, z1, hS5, hb5, hC5⟩
  intros
  have hnot : ∀ {q : Addr}, q = p3 ∨ q = p4 → ¬ DY (fun b => X b ∨ b = p3.block ∨ b = p4.block) base x0 q.block := fun hq hd => by
    rcases hd with hd | hd
    · rcases hq with rfl | rfl
      · exact hd.1 (.inr (.inl rfl))
      · exact hd.1 (.inr (.inr rfl))
    · rcases hq with rfl | rfl <;> omega
  have hb35 := hb32.chg hC5 (hnot (.inl rfl))
  have hb45 := hb4.chg hC5 (hnot (.inr rfl))
  refine ⟨fun w' => ∃ f1 p1, St (fun b => X b ∨ b = p3.block ∨ b = p4.block) base w' { S with x := x1, E := S.E ++ [[]], y := y1, I := S.I ++ [0], z := z1, N := S.N ++ [0], f := f1, H := S.H ++ [(a : Int)], p := p1, P := S.P ++ [[]] } [] [] [] ∧
    Box w' x0 T.t_i_networkReader [x1.v, y1.v, z1.v, ls.v, f1.v, p1.v, .bool any] ∧ Chg w5 w' (DY (fun b => X b ∨ b = p3.block ∨ b = p4.block) base x0), ?_, ?_⟩
  · intro w6 hE6 _
    have h := hS5.ext hE6
    have hb6 := hb5.ext hE6
    have hC6 : Chg w5 w6 (DY (fun b => X b ∨ b = p3.block ∨ b = p4.block) base x0) := dy_ext hE6
    refine ⟨DX (fun b => X b ∨ b = p3.block ∨ b = p4.block) base, fun hd => hd.1 hX'.inX, LD_sl (hb6.cell (i := 4) rfl) ⟨fun hd => hd.1 (.inr (.inl rfl)), LD_int ((hb35.ext hE6).cell (i := 1) rfl) ⟨fun hd => hd.1 hX'.inX, LD_sl (hb6.cell (i := 5) rfl) ?_⟩⟩⟩
    have hC : Chg w6 w6 (DX (fun b => X b ∨ b = p3.block ∨ b = p4.block) base) := Chg.refl _ _
    have hH' : S.H.length ≤ 1000 := by omega
    have hP' : S.P.length ≤ 1000 := by omega
    refine ⟨?_, ?_⟩
    · skip
      refine h.litI (a : Int) ha64 hC fun yF _ h hC => ?_
      refine ⟨?_, ?_⟩
      · skip
        refine h.appF (y1 := yF) (n := (a : Int)) (by simp) hH' hC fun sF _ h hC => ?_
        refine h.litP hC fun yP _ h hC => ?_
        refine h.appP (y1 := yP) (by simp) hP' hC fun sP _ h hC => ?_
        have hb := hb6.chg hC fun hd => hd.1 hX'.inX
        exact h.drop.box1 (p := x0) hb hX'.inX (i := 4) (by simp) rfl fun _ h hC1 hb => h.box1 (p := x0) hb hX'.inX (i := 5) (by simp) rfl fun _ h hC2 hb => ⟨_, _, h, hb, hC6.trans ((dy_of hC).trans ((dy_box hC1).trans (dy_box hC2)))⟩
      · skip
        refine h.litP hC fun yP _ h hC => ?_
        refine h.appF (y1 := yF) (n := (a : Int)) (by simp) hH' hC fun sF _ h hC => ?_
        refine h.appP (y1 := yP) (by simp) hP' hC fun sP _ h hC => ?_
        have hb := hb6.chg hC fun hd => hd.1 hX'.inX
        exact h.drop.box1 (p := x0) hb hX'.inX (i := 4) (by simp) rfl fun _ h hC1 hb => h.box1 (p := x0) hb hX'.inX (i := 5) (by simp) rfl fun _ h hC2 hb => ⟨_, _, h, hb, hC6.trans ((dy_of hC).trans ((dy_box hC1).trans (dy_box hC2)))⟩
    · skip
      refine h.litP hC fun yP _ h hC => ?_
      refine h.litI (a : Int) ha64 hC fun yF _ h hC => ?_
      refine h.appF (y1 := yF) (n := (a : Int)) (by simp) hH' hC fun sF _ h hC => ?_
      refine h.appP (y1 := yP) (by simp) hP' hC fun sP _ h hC => ?_
      have hb := hb6.chg hC fun hd => hd.1 hX'.inX
      exact h.drop.box1 (p := x0) hb hX'.inX (i := 4) (by simp) rfl fun _ h hC1 hb => h.box1 (p := x0) hb hX'.inX (i := 5) (by simp) rfl fun _ h hC2 hb => ⟨_, _, h, hb, hC6.trans ((dy_of hC).trans ((dy_box hC1).trans (dy_box hC2)))⟩
  rintro w7 ⟨f1, p1, hS7, hb7, hC7⟩
  intros
  have hb37 := hb35.chg hC7 (hnot (.inl rfl))
  have hb47 := hb45.chg hC7 (hnot (.inr rfl))
  have dyz : ∀ {u v : World}, Chg u v (DY (fun b => X b ∨ b = p3.block ∨ b = p4.block) base x0) → Chg u v (DZ base x0) := fun hC => hC.mono fun b hb => by
    rcases hb with hb | hb
    · exact .inl hb.2
    · exact .inr hb
  have hM7 := h.rows.start x1 y1 z1 f1 p1 (a : Int)
  obtain ⟨S7, hS, hbS, hM⟩ : ∃ S7, St (fun b => X b ∨ b = p3.block ∨ b = p4.block) base w7 S7 [] [] [] ∧ Box w7 x0 T.t_i_networkReader (bxI S7 ls any) ∧ MidR rs S7 0 0 (a : Int) [] [] := ⟨_, hS7, hb7, hM7⟩
  have hChg7 : Chg w0 w7 (DZ base x0) := h2.chg.trans ((dyz hC5).trans (dyz hC7))
  -- the words
  refine LD_str (hb37.cell (i := 0) rfl) (LD_int (hb37.cell (i := 1) rfl) ?_)
  refine call (wordsOf_ok (base := a) hl ha) ?_
  rintro s w8 ⟨hE8, hO8⟩
  have hz7 := hE8.size_le
  have hlt7 := hbS.lt
  have hX8 : RowX (fun b => (X b ∨ b = p3.block ∨ b = p4.block) ∨ (w7.heap.size ≤ b ∧ b < w8.heap.size)) base x0 p4 := ⟨.inl hX'.inX, .inl hX'.in4, hX'.high, hX'.ne⟩
  have h8 : RowI (fun b => (X b ∨ b = p3.block ∨ b = p4.block) ∨ (w7.heap.size ≤ b ∧ b < w8.heap.size)) base w0 w8 x0 p4 S7 ls any := ⟨hS.grow hE8 fun b hb => hb, hbS.ext hE8, hb47.ext hE8, hChg7.trans (.of_ext hE8)⟩
  have hws : ∀ x ∈ wordsG l a 0, x.1.length ≤ 1048576 ∧ x.2 ≤ 2097152 ∧ 0 < x.1.length := fun x hx => by
    have := wordsG_mem (base := a) _ 0 rfl hx
    omega
  have hW8 : SlR (fun b => w7.heap.size ≤ b ∧ b < w8.heap.size) w8 s ((wordsG l a 0).map wrec) := (hO8.rep (fun x hx => by
    obtain ⟨y, hy, rfl⟩ := List.mem_map.1 hx
    have := hws y hy
    show I64 (y.2 : Int)
    unfold I64; omega)).below
  have hXW : ∀ b, (w7.heap.size ≤ b ∧ b < w8.heap.size) → ((X b ∨ b = p3.block ∨ b = p4.block) ∨ (w7.heap.size ≤ b ∧ b < w8.heap.size)) ∧ b ≠ x0.block := fun b hb => ⟨.inr hb, by omega⟩
  have hXX : ∀ b, X b → (X b ∨ b = p3.block ∨ b = p4.block) ∨ (w7.heap.size ≤ b ∧ b < w8.heap.size) := fun b hb => .inl (.inl hb)
  have hany0 : any = true ↔ (¬ NoIds rs ∨ (0 : Int) ≠ 0) := by rw [h.any]; simp
  rw [hW8.len, List.length_map, mk_lit [35]]
  generalize hwe : wordsG l a 0 = ws at hW8 hws
  match ws, hwe, hW8, hws with
  | [], hwe, hW8, hws =>
    refine cond_df (by simp) ?_
    exact lineTail h8 hX8 hXX hg (f0 := 0) (by rw [hwe]; rfl) (fun hne => absurd rfl hne) hany0 h40 hM hW8 hXW hx19 hws
  | (wd, at1) :: tw, hwe, hW8, hws =>
    refine cond_dt (by simp only [List.length_cons]; omega) ?_
    obtain ⟨hw1, hw2, hw3⟩ := hws _ (List.mem_cons_self ..)
    obtain ⟨b, tl, rfl⟩ := List.exists_cons_of_ne_nil (List.length_pos_iff.1 hw3)
    refine SlR_ixW hW8 (i := 0) (by simp) fun p hc0 _ => LD_str hc0 ?_
    refine call (marked_ok (hg _ h8.chg) (c := 35) (lo := 1) (hi := 999999) (by simp at hw1; omega) rfl rfl) ?_
    rintro n ok w9 ⟨hE9, hm⟩
    have h9 := h8.ext hE9
    have hW9 := hW8.ext hE9
    rcases hm with ⟨rfl, hm, hn⟩ | ⟨rfl, hm⟩
    · refine cond_t rfl ?_
      have hin : idD ((b :: tl, at1) :: tw) = (n, (at1 : Int), tw) := by
        show (match markD 35 1 999999 (b :: tl) with | some n => ((n : Int), (at1 : Int), tw) | none => (0, 0, (b :: tl, at1) :: tw)) = _
        rw [hm, ← hn]
        simp
      obtain ⟨_, _, _, hr1, hr2⟩ := markD_some.1 hm
      intro w10 hE10 _
      have h10 := h9.ext hE10
      have hW10 := hW9.ext hE10
      refine ⟨DX (fun b => (X b ∨ b = p3.block ∨ b = p4.block) ∨ (w7.heap.size ≤ b ∧ b < w8.heap.size)) base, fun hd => hd.1 hX8.inX, LD_bs1 h10.box ⟨fun hd => hd.1 hX8.inX, LD_sl (h10.box.cell (i := 4) rfl) ⟨Chg.refl _ _, ?_⟩⟩⟩
      refine SlR_ixW hW10 (i := 0) (by simp) fun q _ hc1 => ⟨Chg.refl _ _, Chg.refl _ _, LD_int hc1 ⟨Chg.refl _ _, ?_⟩⟩
      have hx19' : S.x.len = rs.length := hx19
      refine h10.st.ixY (v := rs.length) (by rw [hM.lenI]; omega) fun py hpy => ⟨Chg.refl _ _, ?_⟩
      refine h10.st.stY (by rw [hM.lenI]; omega) hpy (by show I64 _; unfold I64; omega) fun w11 hS11 hC11 => ⟨hC11, ?_⟩
      refine hS11.ixF (v := rs.length) (by show rs.length < S7.H.length; rw [hM.lenH]; omega) fun pf hpf => ⟨hC11, ?_⟩
      refine hS11.stF (by show rs.length < S7.H.length; rw [hM.lenH]; omega) hpf (by show I64 (at1 : Int); unfold I64; omega) fun w12 hS12 hC12 => ⟨hC11.trans hC12, ?_⟩
      have hC1012 := hC11.trans hC12
      have hb12 := h10.box.chg hC1012 fun hd => hd.1 hX8.inX
      refine hS12.box1 (p := x0) hb12 hX8.inX (i := 6) (by simp) rfl fun w13 hS13 hC13 hb13 => ?_
      have hW13 := (hW10.chg hC1012 fun b hb _ hd => hd.1 (hXW b hb).1).chg hC13 fun b hb _ hd => (hXW b hb).2 hd
      refine slr_behind (i := 1) hW13 (by simp) rfl fun s' hs' => ?_
      have hs2 : SlR (fun b => w7.heap.size ≤ b ∧ b < w8.heap.size) w13 s' (tw.map wrec) := hs'
      have hf13 := (h10.flt.chg hC1012 fun hd => hd.1 hX8.in4).chg hC13 fun hd => hX8.ne hd.symm
      have hM13 : MidR rs { { S7 with I := S7.I.set rs.length n } with H := (S7.H.set rs.length (at1 : Int)) } n 0 (at1 : Int) [] [] := (hM.setI n).setH (at1 : Int)
      exact lineTail (any := true) ⟨hS13, hb13, hf13, h10.chg.trans ((dz_of hC1012).trans (dz_box hC13))⟩ hX8 hXX hg (by rw [hwe]; exact hin) (fun _ => rfl) ⟨fun _ => .inr (by omega), fun _ => rfl⟩ h40 hM13 hs2 hXW hx19' fun x hx' => hws x (by simp [hx'])
    · refine cond_f rfl ?_
      have hin : idD ((b :: tl, at1) :: tw) = (0, 0, (b :: tl, at1) :: tw) := by
        show (match markD 35 1 999999 (b :: tl) with | some n => ((n : Int), (at1 : Int), tw) | none => (0, 0, (b :: tl, at1) :: tw)) = _
        rw [hm]
      exact lineTail h9 hX8 hXX hg (f0 := 0) (by rw [hwe]; exact hin) (fun hne => absurd rfl hne) hany0 h40 hM hW9 hXW hx19 hws

end Go.Proofs.YtcldmpllpfojhaaDoor
end

section
/- Reading a network's text, the reference's side: ends, identifiers, the whole. -/
namespace Go.Proofs.YtcldmpllpfojhaaDoor
open Go.GX Go.RowKit
set_option maxRecDepth 100000

theorem joined_iff {rs : List PR} {v i a b : Nat} {r : PR} (hr : rs[v]? = some r) (he : r.ends[i]? = some ((a : Int), (b : Int))) : JoinedR rs v i ↔ ∃ q, rs[a]? = some q ∧ q.ends[b]? = some ((v : Int), (i : Int)) := by
  have g : ∀ (u j : Nat), ((endsR rs)[u]?).bind (·[j]?) = (rs[u]?).bind fun q => q.ends[j]? := fun u j => by
    unfold endsR
    rw [List.getElem?_map]
    cases rs[u]? <;> rfl
  unfold JoinedR
  simp only [g]
  rw [hr]
  constructor
  · rintro ⟨c, d, h1, h2⟩
    have h1' : r.ends[i]? = some ((c : Int), (d : Int)) := h1
    rw [he] at h1'
    obtain ⟨h3, h4⟩ := Prod.mk.inj (Option.some.inj h1')
    have hc : a = c := by omega
    have hd : b = d := by omega
    subst hc; subst hd
    cases hq : rs[a]? with
    | none => rw [hq] at h2; cases h2
    | some q => rw [hq] at h2; exact ⟨q, rfl, h2⟩
  · rintro ⟨q, h1, h2⟩
    exact ⟨a, b, he, by rw [h1]; exact h2⟩
theorem rows_get {rs : List PR} {v : Nat} (hv : v < rs.length) : rs[v]? = some rs[v] := List.getElem?_eq_getElem hv

section
variable {X : Nat → Prop} {base : Nat} {w0 w : World} {x0 : Addr} {t : TypeId} {S : RdS} {rs : List PR} {c1 a1 : Int}
theorem LineSt.ext {w' : World} (h : LineSt X base w0 w x0 t S rs c1 a1) (hE : Ext w w') : LineSt X base w0 w' x0 t S rs c1 a1 :=
  ⟨h.st.ext hE, h.box.ext hE, h.rows, h.lines, h.chg.trans (dy_ext hE)⟩
end

theorem ends_ok {X : Nat → Prop} {base : Nat} {w0 w : World} {x0 : Addr} {t : TypeId} {S : RdS} {rs : List PR} {c0 a0 : Int} (h : LineSt X base w0 w x0 t S rs c0 a0) (hok : ∀ r ∈ rs, r.Ok) (hr : rs.length ≤ 40) :
    Calls Tryd.prog F.ptr_s_txRead_ends #[.pointer (some x0)] w (Ret [.at .bool] fun (ok : Bool) w' => (ok = true ∧ EndsOkR rs ∧ LineSt X base w0 w' x0 t S rs c0 a0) ∨ (ok = false ∧ ∃ x, BadEnd rs x ∧ Box w' x0 t (bxS S 4 x) ∧ Chg w0 w' (DY X base x0))) := by
  refine C_ptr_s_txRead_ends ?_
  unfold V_ptr_s_txRead_ends
  have hEl : (endsR rs).length = rs.length := by simp [endsR]
  have hPl : (rs.map (·.ports)).length = rs.length := by simp
  have hRE : ∀ {w' : World}, LineSt X base w0 w' x0 t S rs c0 a0 → R w' S.x (endsR rs) := fun h' => by have := h'.st.rEnds; rw [h'.rows.ends] at this; exact this
  have hRP : ∀ {w' : World}, LineSt X base w0 w' x0 t S rs c0 a0 → R w' S.p (rs.map (·.ports)) := fun h' => by have := h'.st.rP; rw [h'.rows.ports] at this; exact this
  refine LD_bs0 h.box ?_
  rw [(hRE h).len, hEl]
  refine ⟨IN rs.length fun v w' => LineSt X base w0 w' x0 t S rs c0 a0 ∧ ∀ u j, HereR rs u j → u < v → JoinedR rs u j, MN rs.length, IN_zero ⟨h, fun _ _ _ hlt => by omega⟩, ?_⟩
  rintro _ w1 ⟨v, rfl, hv, h1, hJ⟩
  intros
  refine cond_dec (fun hlt => ?_) (fun hge => ?_)
  · have hv' : v < rs.length := by omega
    have hrv := rows_get hv'
    have hrok := hok _ (List.getElem_mem hv')
    have hgE : (endsR rs)[v]'(by omega) = rs[v].ends := by simp [endsR]
    have hgP : (rs.map (·.ports))[v]'(by omega) = rs[v].ports := by simp
    refine (hRE h1).ixL (by omega) fun p1 r1 hr1 hc1 => LD_sl hc1 ?_
    rw [hgE] at hr1
    rw [hr1.len]
    have hsix := hrok.six
    refine ⟨IN rs[v].ends.length fun i w' => Ext w1 w' ∧ ∀ j, j < i → JoinedR rs v j, MN rs[v].ends.length, IN_zero ⟨Ext.refl _, fun _ hlt => by omega⟩, ?_⟩
    rintro _ w2 ⟨i, rfl, hi, hE2, hJi⟩
    intros
    refine cond_dec (fun hlt2 => ?_) (fun hge2 => ?_)
    · have hi' : i < rs[v].ends.length := by omega
      have hge := List.getElem?_eq_getElem hi'
      have hen := hrok.ends _ (List.getElem_mem hi')
      refine (hr1.any.ext hE2).ixE hi' fun p2 _ _ hc0 hc1 => LD_int2 hc0 hc1 ?_
      refine NEW_ST (Go.GX.one2 _ _) rfl fun pe w4 hpe hE4 hbe => ?_
      have h4 := (h1.ext hE2).ext hE4
      have hE14 := hE2.trans hE4
      obtain ⟨⟨e1, e2⟩, hee⟩ : ∃ e, e = rs[v].ends[i] := ⟨_, rfl⟩
      rw [← hee] at hge hen hbe
      simp only at hen hbe
      obtain ⟨a, rfl⟩ : ∃ a : Nat, e1 = a := ⟨e1.toNat, by omega⟩
      obtain ⟨b, rfl⟩ : ∃ b : Nat, e2 = b := ⟨e2.toNat, by omega⟩
      have hji := joined_iff hrv hge
      have k6 : ∀ (tt : Bool) (w5 : World), Ext w4 w5 → (tt = true → ¬ JoinedR rs v i) → (tt = false → JoinedR rs v i) →
          V_ptr_s_txRead_ends_k6 (IN rs[v].ends.length fun i w' => Ext w1 w' ∧ ∀ j, j < i → JoinedR rs v j) (MN rs[v].ends.length) w2 x0 (fun (ok : Bool) w' => (ok = true ∧ EndsOkR rs ∧ LineSt X base w0 w' x0 t S rs c0 a0) ∨ (ok = false ∧ ∃ x, BadEnd rs x ∧ Box w' x0 t (bxS S 4 x) ∧ Chg w0 w' (DY X base x0))) (v : Int) (i : Int) tt w5 := by
        intro tt w5 hE5 ht hf
        have h5 := h4.ext hE5
        unfold V_ptr_s_txRead_ends_k6
        refine cond_b (fun htt => ?_) (fun hff => IN_next (by omega) hi' ⟨hE14.trans hE5, fun j hj => ?_⟩)
        · refine LD_bs4' h5.box ((hRP h5).ixL (by omega) fun p3 r3 hr3 hc3 => LD_sl hc3 ?_)
          rw [hgP] at hr3
          have hip : i < rs[v].ports.length := by have := hrok.len; omega
          refine hr3.ixI hip fun p4 _ hc4 => LD_int hc4 ?_
          refine call (fail_ok h5.box 4 _) ?_
          rintro _ w6 ⟨rfl, hC6, hb6⟩
          refine .inr ⟨rfl, _, ⟨v, i, rs[v], hrv, hi', ht htt, List.getElem?_eq_getElem hip, fun u j hu hlt => ?_⟩, hb6, h5.chg.trans (dy_box hC6)⟩
          rcases hlt with h7 | ⟨rfl, h7⟩
          · exact hJ u j hu h7
          · exact hJi j h7
        · by_cases hji' : j < i
          · exact hJi j hji'
          · have : j = i := by omega
            subst this; exact hf hff
      refine LD_bi0 hbe (LD_bs0 h4.box ?_)
      rw [(hRE h4).len, hEl]
      refine cond_dec (fun hout w5 hE5 => k6 true w5 hE5 (fun _ hj => ?_) (fun hh => by cases hh)) (fun hin => ?_)
      · obtain ⟨q, hq, _⟩ := hji.1 hj
        have := (List.getElem?_eq_some_iff.1 hq).1
        omega
      · have ha : a < rs.length := by omega
        have hra := rows_get ha
        have hgA : (endsR rs)[a]'(by omega) = rs[a].ends := by simp [endsR]
        refine LD_bi1 hbe (LD_bs0 h4.box (LD_bi0 hbe ((hRE h4).ixL (by omega) fun p3 r3 hr3 hc3 => LD_sl hc3 ?_)))
        rw [hgA] at hr3
        rw [hr3.len]
        refine cond_dec (fun hout w5 hE5 => k6 true w5 hE5 (fun _ hj => ?_) (fun hh => by cases hh)) (fun hin2 => ?_)
        · obtain ⟨q, hq, hq2⟩ := hji.1 hj
          rw [hra] at hq
          obtain rfl := Option.some.inj hq
          have := (List.getElem?_eq_some_iff.1 hq2).1
          omega
        · have hb : b < rs[a].ends.length := by omega
          refine LD_bs0 h4.box (LD_bi0 hbe ((hRE h4).ixL (by omega) fun p5 r5 hr5 hc5 => LD_sl hc5 (LD_bi1 hbe ?_)))
          rw [hgA] at hr5
          refine hr5.ixE hb fun p6 _ _ hd0 hd1 => LD_int2 hd0 hd1 (AEQ_neq2 (by kernel_rfl) fun w5 hE5 => ?_)
          refine k6 _ w5 hE5 (fun htt hj => ?_) (fun hff => ?_)
          · obtain ⟨q, hq, hq2⟩ := hji.1 hj
            rw [hra] at hq
            obtain rfl := Option.some.inj hq
            rw [List.getElem?_eq_getElem hb] at hq2
            have e3 := Option.some.inj hq2
            rw [e3] at htt
            simp at htt
          · refine hji.2 ⟨_, hra, ?_⟩
            rw [List.getElem?_eq_getElem hb]
            have e3 : (rs[a].ends[b].1, rs[a].ends[b].2) = ((v : Int), (i : Int)) := by simpa using hff
            exact congrArg some e3
    · have : i = rs[v].ends.length := by omega
      subst this
      refine IN_next (by omega) hv' ⟨h1.ext hE2, fun u j hu hlt3 => ?_⟩
      by_cases huv : u < v
      · exact hJ u j hu huv
      · have : u = v := by omega
        subst this
        obtain ⟨q, hq, hqj⟩ := hu
        rw [hrv] at hq
        obtain rfl := Option.some.inj hq
        exact hJi j hqj
  · have : v = rs.length := by omega
    subst this
    refine .inl ⟨rfl, fun u j hu => hJ u j hu ?_, h1⟩
    obtain ⟨q, hq, _⟩ := hu
    exact (List.getElem?_eq_some_iff.1 hq).1

/-! ### Identifiers -/

theorem St.noY {X : Nat → Prop} {base : Nat} {w : World} {S : RdS} {li : List (Sl × Int)} {le lp : List Sl} (h : St X base w S li le lp) : St X base w { S with y := ⟨none, 0, 0⟩, I := [] } li le lp := by
  obtain ⟨own, h⟩ := h
  exact ⟨own, ⟨h.ends, .none _ _, h.inp, h.fs, h.gs, h.ports, h.box, h.bs, h.lit, h.lite, h.litp⟩⟩

theorem noIds_all {rs : List PR} : AllIn (idsR rs) 0 0 ↔ NoIds rs := by
  unfold AllIn NoIds idsR
  constructor
  · intro h r hr
    have := h r.id (List.mem_map_of_mem hr)
    omega
  · intro h x hx
    obtain ⟨r, hr, rfl⟩ := List.mem_map.1 hx
    have := h r hr
    omega
theorem idsR_get {rs : List PR} {v : Nat} (hv : v < rs.length) : (idsR rs)[v]'(by simpa [idsR] using hv) = rs[v].id := by simp [idsR]

/-- What reading a text leaves: the lists of the network. -/
structure DoneSt (X : Nat → Prop) (base : Nat) (w0 w : World) (x0 : Addr) (t : TypeId) (S : RdS) (n : Net) (c1 a1 : Int) : Prop where
  st : St X base w S [] [] []
  box : Box w x0 t (bxS S c1 a1)
  net : n = ⟨S.E, S.I, S.N⟩
  chg : Chg w0 w (DY X base x0)

theorem ids_ok {X : Nat → Prop} {base : Nat} {w0 w : World} {x0 : Addr} {t : TypeId} {S : RdS} {rs : List PR} {c0 a0 : Int} (h : LineSt X base w0 w x0 t S rs c0 a0) (hX : X x0.block) (h0 : rs ≠ []) (hends : EndsOkR rs) :
    Calls Tryd.prog F.ptr_s_txRead_ids #[.pointer (some x0)] w (Ret [.at .bool] fun (ok : Bool) w' => ∃ S' n x c, RowsAns rs n x c ∧ ((ok = true ∧ c = 0 ∧ x = 0 ∧ DoneSt X base w0 w' x0 t S' n c0 a0) ∨ (ok = false ∧ n = netNil ∧ Box w' x0 t (bxS S' c x) ∧ Chg w0 w' (DY X base x0)))) := by
  refine C_ptr_s_txRead_ids ?_
  unfold V_ptr_s_txRead_ids
  have hIl : (idsR rs).length = rs.length := by simp [idsR]
  have hRI : ∀ {w' : World}, LineSt X base w0 w' x0 t S rs c0 a0 → R w' S.y (idsR rs) := fun h' => by have := h'.st.rIds; rw [h'.rows.ids] at this; exact this
  refine LD_bs1 h.box ?_
  refine call (l1All_ok (hRI h) 0 0) ?_
  rintro tt _ ⟨htt, rfl⟩
  rw [noIds_all] at htt
  refine cond_b (fun ht => ?_) (fun hf => ?_)
  · have hno := htt.1 ht
    rw [add_zero']
    refine h.st.box1 (p := x0) h.box hX (i := 1) (by simp) rfl fun w2 h2 hC2 hb2 => ?_
    refine ⟨{ S with y := ⟨none, 0, 0⟩, I := [] }, _, 0, 0, .noIds h0 hends hno, .inl ⟨rfl, rfl, rfl, h2.noY, hb2, ?_, h.chg.trans (dy_box hC2)⟩⟩
    show _ = Net.mk S.E [] S.N
    rw [h.rows.ends, h.rows.inp]; rfl
  · have hno : ¬ NoIds rs := fun hh => by rw [htt.2 hh] at hf; cases hf
    refine LD_bs1 h.box ?_
    rw [(hRI h).len, hIl]
    refine ⟨IN rs.length fun v w' => LineSt X base w0 w' x0 t S rs c0 a0 ∧ ∀ u q, rs[u]? = some q → u < v → ¬ IdBadAt rs u q, MN rs.length, IN_zero ⟨h, fun _ _ _ hlt => by omega⟩, ?_⟩
    rintro _ w1 ⟨v, rfl, hv, h1, hJ⟩
    intros
    refine cond_dec (fun hlt => ?_) (fun hge => ?_)
    · have hv' : v < rs.length := by omega
      have hrv := rows_get hv'
      refine (hRI h1).ixI (by omega) fun p1 _ hc1 => LD_int hc1 ?_
      rw [idsR_get hv']
      refine cond_eq (fun e0 => ?_) (fun n0 => ?_)
      · have hG := h1.st.rG
        rw [h1.lines] at hG
        refine LD_bs3' h1.box (hG.ixI (i := v) (by simpa using hv') fun p2 _ hc2 => LD_int hc2 ?_)
        refine call (fail_ok h1.box 5 _) ?_
        rintro _ w6 ⟨rfl, hC6, hb6⟩
        refine ⟨S, netNil, _, 5, .badId (x := rs[v].lat) h0 hends hno ⟨v, rs[v], hrv, .inl e0, (if_pos e0).symm, fun u q hq hu => hJ u q hq hu⟩, .inr ⟨rfl, rfl, ?_, h1.chg.trans (dy_box hC6)⟩⟩
        rw [List.getElem_map] at hb6
        exact hb6
      · refine LD_bs1 h1.box ((hRI h1).take (i := v) (by omega) rfl fun s' hs' => ?_)
        refine call (l1Has_ok hs'.any rs[v].id) ?_
        rintro _ _ ⟨rfl, rfl⟩
        refine cond_b (fun hc => ?_) (fun hc => ?_)
        · have hH := h1.st.rF
          have hHl : S.H.length = rs.length := h1.rows.fst.1
          have hHv := h1.rows.fst.2 v _ hrv n0
          rw [List.getElem?_eq_getElem (by omega)] at hHv
          refine LD_bs5' h1.box (hH.ixI (i := v) (by omega) fun p2 _ hc2 => LD_int hc2 ?_)
          rw [Option.some.inj hHv]
          refine call (fail_ok h1.box 5 _) ?_
          rintro _ w6 ⟨rfl, hC6, hb6⟩
          exact ⟨S, netNil, _, 5, .badId (x := rs[v].fst) h0 hends hno ⟨v, rs[v], hrv, .inr (List.elem_iff.1 hc), (if_neg n0).symm, fun u q hq hu => hJ u q hq hu⟩, .inr ⟨rfl, rfl, hb6, h1.chg.trans (dy_box hC6)⟩⟩
        · refine IN_next (by have := (hRI h1).le; omega) hv' ⟨h1, fun u q hq hu => ?_⟩
          by_cases huv : u < v
          · exact hJ u q hq huv
          · have : u = v := by omega
            subst this
            rw [hrv] at hq
            obtain rfl := Option.some.inj hq
            rintro (hz | hz)
            · exact n0 hz
            · have : ((idsR rs).take u).contains rs[u].id = true := List.elem_iff.2 hz
              rw [this] at hc; cases hc
    · have : v = rs.length := by omega
      subst this
      refine ⟨S, _, 0, 0, .good h0 hends hno fun v r hr => hJ v r hr (List.getElem?_eq_some_iff.1 hr).1, .inl ⟨rfl, rfl, rfl, h1.st, h1.box, ?_, h1.chg⟩⟩
      rw [h1.rows.ends, h1.rows.ids, h1.rows.inp]; rfl

end Go.Proofs.YtcldmpllpfojhaaDoor
end

section
/- When a network is a network: both sides' tests, and the laws' tests of nodes and ports. -/
namespace Go.Proofs.YtcldmpllpfojhaaDoor
open Go.GX Go.RowKit
set_option maxRecDepth 100000

abbrev Ends := List (List (Int × Int))

/-- The far end of port i of node v. -/
def port (E : Ends) (v i : Nat) : Option (Int × Int) := (E[v]?).bind (·[i]?)

theorem port_get {E : Ends} {v i : Nat} (hv : v < E.length) (hi : i < E[v].length) : port E v i = some E[v][i] := by
  simp [port, hv, hi]

theorem port_some {E : Ends} {v i : Nat} {e : Int × Int} (h : port E v i = some e) : ∃ (hv : v < E.length) (hi : i < E[v].length), E[v][i] = e := by
  unfold port at h
  by_cases hv : v < E.length
  · by_cases hi : i < E[v].length
    · simp [hv, hi] at h; exact ⟨hv, hi, h⟩
    · simp [hv, hi] at h
  · simp [hv] at h

/-- The far end leads back. -/
def Back (E : Ends) (v i : Nat) (e : Int × Int) : Prop := ∃ a b : Nat, e = ((a : Int), (b : Int)) ∧ port E a b = some ((v : Int), (i : Int))

def RowOk (E : Ends) (v : Nat) : Prop := (∀ r, E[v]? = some r → r.length ≤ 6) ∧ ∀ i e, port E v i = some e → Back E v i e

structure Good (n : Net) : Prop where
  size : 1 ≤ n.ends.length ∧ n.ends.length ≤ 40
  ids : IdsOk n.ids n.ends.length
  inputs : n.inputs.length = n.ends.length ∧ AllIn n.inputs 0 9
  rows : ∀ v < n.ends.length, RowOk n.ends v

theorem Good.deg {n : Net} (h : Good n) {v : Nat} (hv : v < n.ends.length) : n.ends[v].length ≤ 6 := (h.rows v hv).1 _ (by simp [hv])
theorem Good.back {n : Net} (h : Good n) {v i : Nat} (hv : v < n.ends.length) (hi : i < n.ends[v].length) : Back n.ends v i n.ends[v][i] := (h.rows v hv).2 i _ (port_get hv hi)

theorem hasNode_ok {w : World} {a b c : Sl} {n : Net} (h : RNet w a b c n) (v : Int) :
    Calls Tryd.prog F.i_Network_hasNode #[.agg #[a.v, b.v, c.v], .int .i64 v] w (Ret [.at .bool] fun (x : Bool) w' => x = decide (0 ≤ v ∧ v < n.ends.length) ∧ Ext w w') := by
  refine C_i_Network_hasNode ?_
  unfold V_i_Network_hasNode
  refine NEW_intro fun p w1 hp hs hE1 hb1 => LD_bs0 hb1 ?_
  have hl := h.1.le
  rw [h.1.len, wrap_of (by omega) (by omega)]
  refine call (within_ok _ _ _ _) ?_
  rintro x _ ⟨rfl, rfl⟩
  refine ⟨?_, hE1⟩
  rw [Bool.eq_iff_iff]
  simp [inR]
  omega

/-- Port numbers as whole numbers. -/
def portZ (E : Ends) (v i : Int) : Option (Int × Int) := if 0 ≤ v ∧ 0 ≤ i then port E v.toNat i.toNat else none

theorem hasPort_ok {w : World} {a b c : Sl} {n : Net} (h : RNet w a b c n) (v i : Int) :
    Calls Tryd.prog F.i_Network_hasPort #[.agg #[a.v, b.v, c.v], .int .i64 v, .int .i64 i] w (Ret [.at .bool] fun (x : Bool) w' => x = (portZ n.ends v i).isSome ∧ Ext w w') := by
  refine C_i_Network_hasPort ?_
  unfold V_i_Network_hasPort
  refine NEW_intro fun p w1 hp hs hE1 hb1 => LD_box3 hb1 ?_
  refine call (hasNode_ok (h.ext hE1) v) ?_
  rintro x w2 ⟨rfl, hE2⟩
  have hE := hE1.trans hE2
  refine cond_dec (fun ⟨h0, h1⟩ => ?_) (fun hn => ⟨?_, hE⟩)
  · refine LD_bs0 (hb1.ext hE2) ?_
    obtain ⟨m, rfl⟩ := Int.eq_ofNat_of_zero_le h0
    have hm : m < n.ends.length := by omega
    refine (h.ext hE).1.ixL hm fun q s hR hc => LD_sl hc ?_
    have hl := hR.le
    rw [hR.len, wrap_of (by omega) (by omega)]
    refine call (within_ok _ _ _ _) ?_
    rintro x _ ⟨rfl, rfl⟩
    refine ⟨?_, hE⟩
    unfold portZ
    by_cases hi : 0 ≤ i
    · obtain ⟨k, rfl⟩ := Int.eq_ofNat_of_zero_le hi
      by_cases hk : k < n.ends[m].length
      · simp [inR, port, hm, hk]; omega
      · simp [inR, port, hm, hk]; omega
    · simp [inR, hi]
  · unfold portZ
    by_cases h0 : 0 ≤ v ∧ 0 ≤ i
    · have : ¬ v.toNat < n.ends.length := by omega
      simp [h0, port, this]
    · simp [h0]

/-- Two answers of a test: the answer, and whether it was asked rightly. -/
def Ans2 (g p : Prop) (x ok : Bool) : Prop := (x = true ↔ g ∧ p) ∧ (ok = true ↔ g)

theorem Ans2.no {g p : Prop} (h : ¬ g) : Ans2 g p false false := ⟨by simp [h], by simp [h]⟩
theorem Ans2.mk {g p : Prop} {x : Bool} (h : g) (hx : x = true ↔ p) : Ans2 g p x true := ⟨by simp [h, hx], by simp [h]⟩

end Go.Proofs.YtcldmpllpfojhaaDoor
end

section
/- What a node's neighbours bear: both sides' walks over ports; the tests IsDefective and IsWeak. -/
namespace Go.Proofs.YtcldmpllpfojhaaDoor
open Go.GX Go.RowKit
set_option maxRecDepth 100000

theorem Good.far {n : Net} (hg : Good n) {v i : Nat} (hv : v < n.ends.length) (hi : i < n.ends[v].length) : ∃ x y : Nat, n.ends[v][i] = ((x : Int), (y : Int)) ∧ x < n.ends.length ∧ port n.ends x y = some ((v : Int), (i : Int)) := by
  obtain ⟨x, y, hxy, hb⟩ := hg.back hv hi
  obtain ⟨hx, _⟩ := port_some hb
  exact ⟨x, y, hxy, hx, hb⟩

/-! ### Colours -/

structure ColoursOk (n : Net) (l : List Int) : Prop where
  good : Good n
  len : l.length = n.ends.length
  all : AllIn l 0 1000000000000

/-! ### IsDefective -/

/-! ### IsWeak -/

end Go.Proofs.YtcldmpllpfojhaaDoor
end

section
/- Edges: both sides' lists of them, and searching in lists of numbers, ends and edges. -/
namespace Go.Proofs.YtcldmpllpfojhaaDoor
open Go.GX Go.RowKit
set_option maxRecDepth 100000

abbrev Edge := Int × Int × Int × Int

/-- The port of an edge that bears it: the lesser of its two ends. -/
def isFirst (v i : Nat) (e : Int × Int) : Bool := decide ((v : Int) < e.1) || ((v : Int) == e.1 && decide ((i : Int) ≤ e.2))

def portE (E : Ends) (v i : Nat) : List Edge := match port E v i with
  | some e => if isFirst v i e then [((v : Int), (i : Int), e.1, e.2)] else []
  | none => []
def rowE (E : Ends) (v : Nat) : Nat → List Edge
  | 0 => []
  | i + 1 => rowE E v i ++ portE E v i
/-! ### Searching -/

def Found {α : Type} (l : List α) (p : α → Bool) (i : Int) : Prop := match l.findIdx? p with | some k => i = k | none => i = -1

theorem found_ge {α : Type} {l : List α} {p : α → Bool} {i : Int} (h : Found l p i) : decide (i ≥ 0) = l.any p := by
  unfold Found at h
  cases hf : l.findIdx? p with
  | none =>
    rw [hf] at h
    simp only at h
    subst h
    have h1 := List.findIdx?_eq_none_iff.1 hf
    have : l.any p = false := by
      rw [List.any_eq_false]; intro x hx; simp [h1 x hx]
    rw [this]; rfl
  | some k =>
    rw [hf] at h
    simp only at h
    subst h
    obtain ⟨hk, hp, _⟩ := List.findIdx?_eq_some_iff_getElem.1 hf
    have : l.any p = true := List.any_eq_true.2 ⟨l[k], List.getElem_mem hk, hp⟩
    rw [this]
    simp

theorem found_at {α : Type} {l : List α} {p : α → Bool} {i : Nat} (hi : i < l.length) (ha : ∀ x ∈ l.take i, p x = false) (ht : p l[i] = true) : Found l p i := by
  have : l.findIdx? p = some i := by
    rw [List.findIdx?_eq_some_iff_getElem]
    refine ⟨hi, ht, fun j hj => ?_⟩
    have := ha l[j] (by rw [List.mem_take_iff_getElem]; exact ⟨j, by omega, rfl⟩)
    simp [this]
  unfold Found
  rw [this]

theorem found_no {α : Type} {l : List α} {p : α → Bool} (ha : ∀ x ∈ l, p x = false) : Found l p (-1) := by
  have : l.findIdx? p = none := List.findIdx?_eq_none_iff.2 ha
  unfold Found
  rw [this]

theorem none_succ {α : Type} {l : List α} {p : α → Bool} {i : Nat} (hi : i < l.length) (ha : ∀ x ∈ l.take i, p x = false) (hf : p l[i] = false) : ∀ x ∈ l.take (i + 1), p x = false := by
  intro y hy
  rw [List.take_succ_eq_append_getElem hi] at hy
  rcases List.mem_append.1 hy with h1 | h1
  · exact ha y h1
  · rw [List.mem_singleton.1 h1]; exact hf

theorem index_ok {w : World} {s : Sl} {l : List Int} (h : R w s l) (x : Int) :
    Calls Tryd.prog F.slices_Index_sl_int_int #[s.v, .int .i64 x] w (Ret [.at (.int .i64)] fun (i : Int) w' => Found l (fun y => x == y) i ∧ w = w') := by
  refine C_slices_Index_sl_int_int ?_
  unfold V_slices_Index_sl_int_int
  rw [h.len]
  refine ⟨IN l.length fun i w' => w = w' ∧ ∀ y ∈ l.take i, (x == y) = false, MN l.length, IN_zero ⟨rfl, by simp⟩, ?_⟩
  rintro _ w1 ⟨i, rfl, hi', rfl, ha⟩
  intros
  refine cond_dec (fun hlt => ?_) (fun hge => ⟨?_, rfl⟩)
  · have hlt' : i < l.length := by omega
    refine h.ixI hlt' fun q _ hc => LD_int hc ?_
    exact cond_b (fun ht => ⟨found_at hlt' ha ht, rfl⟩) (fun hf => IN_next h.le hlt' ⟨rfl, none_succ hlt' ha hf⟩)
  · have : i = l.length := by omega
    subst this
    exact found_no (by simpa using ha)

theorem contains_ok {w : World} {s : Sl} {l : List Int} (h : R w s l) (x : Int) :
    Calls Tryd.prog F.slices_Contains_sl_int_int #[s.v, .int .i64 x] w (Ret [.at .bool] fun (b : Bool) w' => b = l.contains x ∧ w = w') := by
  refine C_slices_Contains_sl_int_int ?_
  unfold V_slices_Contains_sl_int_int
  refine call (index_ok h x) ?_
  rintro i _ ⟨hi, rfl⟩
  refine ⟨?_, rfl⟩
  rw [found_ge hi, ← List.any_beq]

end Go.Proofs.YtcldmpllpfojhaaDoor
end

section
/- Reading a network's text, the program's side: ends, identifiers. -/
namespace Go.Proofs.YtcldmpllpfojhaaDoor
open Go.GX Go.RowKit
set_option maxRecDepth 100000

/-- A fault of the call's own is written and read. -/
theorem fault_done {w w1 w2 : World} {p : Addr} (hp : p.block = w.heap.size) (hE1 : Ext w w1) (hb : Box w1 p T.t_i_fault [.int .i64 0, .int .i64 0]) (hE2 : Ext w1 w2) (a c : Int) {Q : Int → Int → World → Prop} (hk : ∀ w', Ext w w' → Ext w2 w' ∨ True → Q a c w') :
    GX.ST p 0 [.int .i64 a, .int .i64 c] w2 fun w' => LD [.int .i64, .int .i64] p w' fun (x y : Int) => Q x y w' :=
  ST_all (hb.ext hE2) (Go.GX.one2 _ _) rfl fun w' hs _ hb' => LD_box2 hb' (hk w' (hs.ext0 (hE1.trans hE2) fun k hk => by cases hk; omega) (.inr trivial))

theorem iEnds_ok {X : Nat → Prop} {base : Nat} {w0 w : World} {x0 : Addr} {S : RdS} {ls : Sl} {any : Bool} {rs : List PR} (h : LineI X base w0 w x0 S ls any rs) (hok : ∀ r ∈ rs, r.Ok) (hr : rs.length ≤ 40) :
    Calls Tryd.prog F.ptr_i_networkReader_checkEnds #[.pointer (some x0)] w (Ret [.agg [.int .i64, .int .i64]] fun (f c : Int) w' => (c = 0 ∧ f = 0 ∧ EndsOkR rs ∧ LineI X base w0 w' x0 S ls any rs) ∨ (c = 4 ∧ BadEnd rs f ∧ Chg w0 w' (DZ base x0))) := by
  refine C_ptr_i_networkReader_checkEnds ?_
  unfold V_ptr_i_networkReader_checkEnds
  refine NEW_intro fun p2 w1 hp2 hs1 hE1 hb2 => ?_
  have hEl : (endsR rs).length = rs.length := by simp [endsR]
  have hPl : (rs.map (·.ports)).length = rs.length := by simp
  have hRE : ∀ {w' : World}, LineI X base w0 w' x0 S ls any rs → R w' S.x (endsR rs) := fun h' => by have := h'.st.rEnds; rw [h'.rows.ends] at this; exact this
  have hRP : ∀ {w' : World}, LineI X base w0 w' x0 S ls any rs → R w' S.p (rs.map (·.ports)) := fun h' => by have := h'.st.rP; rw [h'.rows.ports] at this; exact this
  have hRN : ∀ {w' : World}, LineI X base w0 w' x0 S ls any rs → RNet w' S.x S.y S.z ⟨endsR rs, S.I, S.N⟩ := fun h' => ⟨hRE h', h'.st.rIds, h'.st.rInp⟩
  have h1 := h.ext hE1
  refine LD_bs0 h1.box ?_
  rw [(hRE h1).len, hEl]
  refine ⟨IN rs.length fun v w' => Ext w1 w' ∧ ∀ u j, HereR rs u j → u < v → JoinedR rs u j, MN rs.length, IN_zero ⟨Ext.refl _, fun _ _ _ hlt => by omega⟩, ?_⟩
  rintro _ w2 ⟨v, rfl, hv, hE12, hJ⟩
  intros
  have h2 := h1.ext hE12
  refine cond_dec (fun hlt => ?_) (fun hge => ?_)
  · have hv' : v < rs.length := by omega
    have hrv := rows_get hv'
    have hrok := hok _ (List.getElem_mem hv')
    have hgE : (endsR rs)[v]'(by omega) = rs[v].ends := by simp [endsR]
    have hgP : (rs.map (·.ports))[v]'(by omega) = rs[v].ports := by simp
    refine (hRE h2).ixL (by omega) fun p1 r1 hr1 hc1 => LD_sl hc1 ?_
    rw [hgE] at hr1
    rw [hr1.len]
    have hsix := hrok.six
    refine ⟨IN rs[v].ends.length fun i w' => Ext w2 w' ∧ ∀ j, j < i → JoinedR rs v j, MN rs[v].ends.length, IN_zero ⟨Ext.refl _, fun _ hlt => by omega⟩, ?_⟩
    rintro _ w3 ⟨i, rfl, hi, hE3, hJi⟩
    intros
    refine cond_dec (fun hlt2 => ?_) (fun hge2 => ?_)
    · have hi' : i < rs[v].ends.length := by omega
      have hge := List.getElem?_eq_getElem hi'
      have hen := hrok.ends _ (List.getElem_mem hi')
      refine (hr1.any.ext hE3).ixE hi' fun p2' _ _ hc0 hc1 => LD_int2 hc0 hc1 ?_
      refine NEW_ST (Go.GX.one2 _ _) rfl fun pe w5 hpe hE5 hbe => ?_
      have h5 := (h2.ext hE3).ext hE5
      have hE25 := hE3.trans hE5
      have hE15 := hE12.trans hE25
      obtain ⟨⟨e1, e2⟩, hee⟩ : ∃ e, e = rs[v].ends[i] := ⟨_, rfl⟩
      rw [← hee] at hge hen hbe
      simp only at hen hbe
      obtain ⟨a, rfl⟩ : ∃ a : Nat, e1 = a := ⟨e1.toNat, by omega⟩
      obtain ⟨b, rfl⟩ : ∃ b : Nat, e2 = b := ⟨e2.toNat, by omega⟩
      have hji := joined_iff hrv hge
      -- a port that is not joined as it says
      have bad : ∀ w6, Ext w5 w6 → ¬ JoinedR rs v i → LD [.sl] (x0.add 5) w6 fun (x57 : Sl) => IX x57 (v : Int) 1 fun (px59 : Addr) => LD [.sl] px59 w6 fun (x60 : Sl) => IX x60 (i : Int) 1 fun (px62 : Addr) => LD [.int .i64] px62 w6 fun (x63 : Int) =>
          GX.ST p2 0 [.int .i64 x63, .int .i64 4] w6 fun w8 => LD [.int .i64, .int .i64] p2 w8 fun (f c : Int) => (c = 0 ∧ f = 0 ∧ EndsOkR rs ∧ LineI X base w0 w8 x0 S ls any rs) ∨ (c = 4 ∧ BadEnd rs f ∧ Chg w0 w8 (DZ base x0)) := by
        intro w6 hE6 hn
        have h6 := h5.ext hE6
        refine LD_bs5' h6.box ((hRP h6).ixL (by omega) fun p3 r3 hr3 hc3 => LD_sl hc3 ?_)
        rw [hgP] at hr3
        have hip : i < rs[v].ports.length := by have := hrok.len; omega
        refine hr3.ixI hip fun p4 _ hc4 => LD_int hc4 ?_
        refine fault_done hp2 hE1 hb2 (hE15.trans hE6) _ 4 fun w' hE' _ => .inr ⟨rfl, ⟨v, i, rs[v], hrv, hi', hn, List.getElem?_eq_getElem hip, fun u j hu hlt => ?_⟩, h.chg.trans (.of_ext hE')⟩
        rcases hlt with h7 | ⟨rfl, h7⟩
        · exact hJ u j hu h7
        · exact hJi j h7
      refine LD_box3 h5.box (LD_bi0 hbe (LD_bi1 hbe ?_))
      refine QCALL_bool _ (fun w' hw' => hasPort_ok ((hRN h5).ext hw') _ _) ?_
      have hpz : (portZ (endsR rs) (a : Int) (b : Int)).isSome = true ↔ ∃ q, rs[a]? = some q ∧ b < q.ends.length := by
        unfold portZ port endsR
        rw [if_pos ⟨by omega, by omega⟩, Int.toNat_natCast, Int.toNat_natCast, List.getElem?_map]
        cases hq : rs[a]? with
        | none => simp
        | some q =>
          simp only [Option.map_some, Option.bind_some]
          constructor
          · intro hs
            refine ⟨q, rfl, ?_⟩
            rcases Nat.lt_or_ge b q.ends.length with hb | hb
            · exact hb
            · rw [List.getElem?_eq_none hb] at hs; cases hs
          · rintro ⟨q', hq', hb⟩
            obtain rfl := Option.some.inj hq'
            rw [List.getElem?_eq_getElem hb]; rfl
      refine cond_not (fun hf => fun w6 hE6 => bad w6 hE6 fun hj => ?_) (fun ht => ?_)
      · obtain ⟨q, hq, hq2⟩ := hji.1 hj
        have := hpz.2 ⟨q, hq, (List.getElem?_eq_some_iff.1 hq2).1⟩
        rw [hf] at this; cases this
      · obtain ⟨q, hq, hb⟩ := hpz.1 ht
        have ha : a < rs.length := (List.getElem?_eq_some_iff.1 hq).1
        have hqe : rs[a] = q := by rw [rows_get ha] at hq; exact Option.some.inj hq
        subst hqe
        have hgA : (endsR rs)[a]'(by omega) = rs[a].ends := by simp [endsR]
        refine LD_bs0 h5.box (LD_bi0 hbe ((hRE h5).ixL (by omega) fun p5 r5 hr5 hc5 => LD_sl hc5 (LD_bi1 hbe ?_)))
        rw [hgA] at hr5
        refine hr5.ixE hb fun p6 _ _ hd0 hd1 => LD_int2 hd0 hd1 (AEQ_neq2 (by kernel_rfl) fun w7 hE7 => ?_)
        refine cond_b (fun htt => bad w7 hE7 fun hj => ?_) (fun hff => IN_next (by omega) hi' ⟨hE25.trans hE7, fun j hj => ?_⟩)
        · obtain ⟨q, hq', hq2⟩ := hji.1 hj
          rw [hq] at hq'
          obtain rfl := Option.some.inj hq'
          rw [List.getElem?_eq_getElem hb] at hq2
          have e3 := Option.some.inj hq2
          rw [e3] at htt
          simp at htt
        · by_cases hji' : j < i
          · exact hJi j hji'
          · have : j = i := by omega
            subst this
            refine hji.2 ⟨_, hq, ?_⟩
            rw [List.getElem?_eq_getElem hb]
            have e3 : (rs[a].ends[b].1, rs[a].ends[b].2) = ((v : Int), (j : Int)) := by simpa using hff
            exact congrArg some e3
    · have : i = rs[v].ends.length := by omega
      subst this
      refine IN_next (by omega) hv' ⟨hE12.trans hE3, fun u j hu hlt3 => ?_⟩
      by_cases huv : u < v
      · exact hJ u j hu huv
      · have : u = v := by omega
        subst this
        obtain ⟨q, hq, hqj⟩ := hu
        rw [hrv] at hq
        obtain rfl := Option.some.inj hq
        exact hJi j hqj
  · have : v = rs.length := by omega
    subst this
    refine fault_done hp2 hE1 hb2 hE12 0 0 fun w' hE' _ => .inl ⟨rfl, rfl, fun u j hu => hJ u j hu ?_, h.ext hE'⟩
    obtain ⟨q, hq, _⟩ := hu
    exact (List.getElem?_eq_some_iff.1 hq).1

/-- What reading leaves. -/
structure DoneI (X : Nat → Prop) (base : Nat) (w0 w : World) (x0 : Addr) (n : Net) : Prop where
  ex : ∃ S ls any, St X base w S [] [] [] ∧ Box w x0 T.t_i_networkReader (bxI S ls any) ∧ n = ⟨S.E, S.I, S.N⟩
  chg : Chg w0 w (DZ base x0)

theorem iIds_ok {X : Nat → Prop} {base : Nat} {w0 w : World} {x0 : Addr} {S : RdS} {ls : Sl} {any : Bool} {rs : List PR} (h : LineI X base w0 w x0 S ls any rs) (hX : X x0.block) (h0 : rs ≠ []) (hends : EndsOkR rs)
    {L : List Wd} (hL : ∀ w', Chg w0 w' (DZ base x0) → R w' ls (L.map wrec)) (hlat : rs.map (·.lat) = L.map fun x => (x.2 : Int)) :
    Calls Tryd.prog F.ptr_i_networkReader_checkIds #[.pointer (some x0)] w (Ret [.agg [.int .i64, .int .i64]] fun (f c : Int) w' => ∃ n, RowsAns rs n f c ∧ ((c = 0 ∧ f = 0 ∧ DoneI X base w0 w' x0 n) ∨ (c ≠ 0 ∧ n = netNil ∧ Chg w0 w' (DZ base x0)))) := by
  refine C_ptr_i_networkReader_checkIds ?_
  unfold V_ptr_i_networkReader_checkIds
  refine NEW_intro fun p2 w1 hp2 hs1 hE1 hb2 => ?_
  have h1 := h.ext hE1
  have hIl : (idsR rs).length = rs.length := by simp [idsR]
  have hLl : L.length = rs.length := by have := congrArg List.length hlat; simpa using this.symm
  have hRI : ∀ {w' : World}, LineI X base w0 w' x0 S ls any rs → R w' S.y (idsR rs) := fun h' => by have := h'.st.rIds; rw [h'.rows.ids] at this; exact this
  refine LD_bool (h1.box.cell (i := 6) rfl) ?_
  refine cond_not (fun hf => ?_) (fun ht => ?_)
  · have hno : NoIds rs := Classical.byContradiction fun hh => by have := h.any.2 hh; rw [hf] at this; cases this
    rw [add_zero']
    have hl0 := h.box.lt
    refine h1.st.box1 (p := x0) h1.box hX (i := 1) (by simp) rfl fun w2 hS2 hC2 hb => ?_
    have hb22 := hb2.chg hC2 fun hd => by omega
    refine ST_all hb22 (Go.GX.one2 _ _) rfl fun w3 hs3 _ hb3 => LD_box2 hb3 ?_
    have hC3 : Chg w2 w3 (fun b => b = p2.block) := .of_step hs3 fun k hk => by cases hk; rfl
    have hbs := h.st.bs
    -- the fault's variable is new
    have hS3 : St (fun b => X b ∨ b = p2.block) base w1 S [] [] [] := h.st.grow hE1 fun b hb => by
      rcases hb with hb | rfl
      · exact .inl hb
      · exact .inr ⟨by omega, hb2.lt⟩
    have hS2' : St (fun b => X b ∨ b = p2.block) base w2 S [] [] [] := hS3.other hC2 fun b hb => .inl (by rw [hb]; exact hX)
    have hS4 := hS2'.other hC3 fun b hb => .inr hb
    refine ⟨_, .noIds h0 hends hno, .inl ⟨rfl, rfl, ⟨{ S with y := ⟨none, 0, 0⟩, I := [] }, ls, any, (hS4.less fun b hb => .inl hb).noY, hb.chg hC3 (fun hd => by omega), ?_⟩, h1.chg.trans ((dz_box hC2).trans (dz_high (by omega) hC3))⟩⟩
    show _ = Net.mk S.E [] S.N
    rw [h.rows.ends, h.rows.inp]; rfl
  · have hno : ¬ NoIds rs := h.any.1 ht
    refine LD_bs1 h1.box ?_
    rw [(hRI h1).len, hIl]
    refine ⟨IN rs.length fun v w' => Ext w1 w' ∧ ∀ u q, rs[u]? = some q → u < v → ¬ IdBadAt rs u q, MN rs.length, IN_zero ⟨Ext.refl _, fun _ _ _ hlt => by omega⟩, ?_⟩
    rintro _ w4 ⟨v, rfl, hv, hE14, hJ⟩
    intros
    have h4 := h1.ext hE14
    refine cond_dec (fun hlt => ?_) (fun hge => ?_)
    · have hv' : v < rs.length := by omega
      have hrv := rows_get hv'
      refine (hRI h4).ixI (by omega) fun p1 _ hc1 => LD_int hc1 ?_
      rw [idsR_get hv']
      refine cond_eq (fun e0 => ?_) (fun n0 => ?_)
      · refine LD_bs3' h4.box (SlR_ixW (hL _ h4.chg) (i := v) (by omega) fun p3 _ hc3 => LD_int hc3 ?_)
        have hlv : (L[v].2 : Int) = rs[v].lat := by
          have : (rs.map (·.lat))[v]'(by simpa using hv') = (L.map fun x => (x.2 : Int))[v]'(by simpa using hLl.symm ▸ hv') := by simp only [hlat]
          simpa using this.symm
        rw [hlv]
        exact fault_done hp2 hE1 hb2 hE14 _ 5 fun w' hE' _ => ⟨netNil, .badId (x := rs[v].lat) h0 hends hno ⟨v, rs[v], hrv, .inl e0, (if_pos e0).symm, fun u q hq hu => hJ u q hq hu⟩, .inr ⟨by decide, rfl, h.chg.trans (.of_ext hE')⟩⟩
      · refine LD_bs1 h4.box ((hRI h4).take (i := v) (by omega) rfl fun s' hs' => ?_)
        refine call (contains_ok hs'.any rs[v].id) ?_
        rintro _ _ ⟨rfl, rfl⟩
        refine cond_b (fun hc => ?_) (fun hc => ?_)
        · have hH := h4.st.rF
          have hHl : S.H.length = rs.length := h4.rows.fst.1
          have hHv := h4.rows.fst.2 v _ hrv n0
          rw [List.getElem?_eq_getElem (by omega)] at hHv
          refine LD_bs4' h4.box (hH.ixI (i := v) (by omega) fun p3 _ hc3 => LD_int hc3 ?_)
          rw [Option.some.inj hHv]
          exact fault_done hp2 hE1 hb2 hE14 _ 5 fun w' hE' _ => ⟨netNil, .badId (x := rs[v].fst) h0 hends hno ⟨v, rs[v], hrv, .inr (List.elem_iff.1 hc), (if_neg n0).symm, fun u q hq hu => hJ u q hq hu⟩, .inr ⟨by decide, rfl, h.chg.trans (.of_ext hE')⟩⟩
        · refine IN_next (by have := (hRI h4).le; omega) hv' ⟨hE14, fun u q hq hu => ?_⟩
          by_cases huv : u < v
          · exact hJ u q hq huv
          · have : u = v := by omega
            subst this
            rw [hrv] at hq
            obtain rfl := Option.some.inj hq
            rintro (hz | hz)
            · exact n0 hz
            · have : ((idsR rs).take u).contains rs[u].id = true := List.elem_iff.2 hz
              rw [this] at hc; cases hc
    · have : v = rs.length := by omega
      subst this
      refine fault_done hp2 hE1 hb2 hE14 0 0 fun w' hE' _ => ⟨_, .good h0 hends hno fun v r hr => hJ v r hr (List.getElem?_eq_some_iff.1 hr).1, .inl ⟨rfl, rfl, ⟨S, ls, any, (h.ext hE').st, (h.ext hE').box, ?_⟩, h.chg.trans (.of_ext hE')⟩⟩
      rw [h.rows.ends, h.rows.ids, h.rows.inp]; rfl

end Go.Proofs.YtcldmpllpfojhaaDoor
end

section
/- Reading a network's text, the reference's side: the whole text, the answer. -/
namespace Go.Proofs.YtcldmpllpfojhaaDoor
open Go.GX Go.RowKit
set_option maxRecDepth 100000

theorem all_ok {X : Nat → Prop} {base : Nat} {w0 w : World} {x0 : Addr} {t : TypeId} {S : RdS} {c0 a0 : Int} (h : LineSt X base w0 w x0 t S [] c0 a0) (hX : X x0.block) {l : List UInt8} (hl : l.length ≤ 1048576) :
    Calls Tryd.prog F.ptr_s_txRead_all #[.pointer (some x0), .string (mkS l)] w (Ret [.at .bool] fun (ok : Bool) w' => ∃ S' n x c, NetAns l n x c ∧ ((ok = true ∧ c = 0 ∧ x = 0 ∧ ∃ c1 a1, DoneSt X base w0 w' x0 t S' n c1 a1) ∨ (ok = false ∧ n = netNil ∧ Box w' x0 t (bxS S' c x) ∧ Chg w0 w' (DY X base x0)))) := by
  refine C_ptr_s_txRead_all ?_
  unfold V_ptr_s_txRead_all
  rw [mkS_size]
  refine cond_dec (fun hlong => ?_) (fun hshort => ?_)
  · refine call (fail_ok h.box 1 0) ?_
    rintro _ w1 ⟨rfl, hC1, hb1⟩
    exact ⟨S, netNil, 0, 1, .long (by omega), .inr ⟨rfl, rfl, hb1, h.chg.trans (dy_box hC1)⟩⟩
  · have hs : ¬ 6000 < l.length := by omega
    refine ⟨fun from1 w' => ∃ k : Nat, from1 = k ∧ k ≤ l.length + 1 ∧ ∃ S' rs c2 a2, LineSt X base w0 w' x0 t S' rs c2 a2 ∧ rowsP (linesG l k) rs = rowsP (linesG l 0) [] ∧ (∀ r ∈ rs, r.Ok) ∧ rs.length ≤ 40, fun from1 _ => l.length + 1 - from1.toNat, ⟨0, rfl, by omega, S, [], c0, a0, h, rfl, by simp, by simp⟩, ?_⟩
    rintro _ w2 ⟨k, rfl, hk, S2, rs, c2, a2, h2, hrows, hok, hr⟩
    intros
    refine cond_dec (fun hlt => ?_) (fun hge => ?_)
    · have hk' : k < l.length := by omega
      have hle := endG_le (c := 10) (show k ≤ l.length by omega)
      rw [linesG_line hk'] at hrows
      repeat' (with_reducible refine dropVi ?_)
      refine endLoop (c := 10) (by omega) hl rfl ?_
      unfold V_ptr_s_txRead_all_k4
      rw [wrap_of (n := (endG 10 l k : Int) + 1) (by omega) (by omega)]
      refine RUN_sub und_str (by omega) hle.2 ?_
      have hsl : (seg l k (endG 10 l k)).length = endG 10 l k - k := seg_len hle.2
      refine call (line_ok h2 hX hr (l := seg l k (endG 10 l k)) (by omega) (a := k) (by omega)) ?_
      rintro ok w6 ⟨S3, c3, a3, hA⟩
      rcases hA with ⟨rfl, hlt40, r, hq, h3⟩ | ⟨rfl, hL, hb3, hC3⟩
      · refine cond_f rfl ⟨⟨endG 10 l k + 1, by omega, by omega, S3, rs ++ [r], c3, a3, h3, ?_, fun q hq' => ?_, by simp; omega⟩, by simp only []; omega⟩
        · rw [← hrows]
          conv => rhs; unfold rowsP
          rw [if_neg (by omega), hq]
        · rcases List.mem_append.1 hq' with hq' | hq'
          · exact hok q hq'
          · rw [List.mem_singleton.1 hq']; exact rowQ_ok hq
      · refine cond_t rfl ⟨S3, netNil, a3, c3, .bad (f := (a3, c3)) hs (by rw [← hrows]; exact hL _), .inr ⟨rfl, rfl, hb3, hC3⟩⟩
    · rw [linesG_end (by omega)] at hrows
      have hrows' : rowsP (linesG l 0) [] = .ok rs := by rw [← hrows]; rfl
      have hG := h2.st.rG
      rw [h2.lines] at hG
      refine LD_bs3' h2.box ?_
      rw [hG.len, List.length_map]
      refine cond_eq (fun e0 => ?_) (fun n0 => ?_)
      · refine call (fail_ok h2.box 3 0) ?_
        rintro _ w1 ⟨rfl, hC1, hb1⟩
        exact ⟨S2, netNil, 0, 3, .rows hs hrows' (.none (List.length_eq_zero_iff.1 (by omega))), .inr ⟨rfl, rfl, hb1, h2.chg.trans (dy_box hC1)⟩⟩
      · have hne : rs ≠ [] := fun e => n0 (by rw [e]; rfl)
        refine call (ends_ok h2 hok hr) ?_
        rintro ok w8 (⟨rfl, hends, h8⟩ | ⟨rfl, x, hbad, hb8, hC8⟩)
        · refine cond_t rfl ?_
          refine call (ids_ok h8 hX hne hends) ?_
          rintro ok9 w9 ⟨S9, n, x, c, hA, hD⟩
          refine ⟨S9, n, x, c, .rows hs hrows' hA, ?_⟩
          rcases hD with ⟨h1, h2', h3, h4⟩ | hD
          · exact .inl ⟨h1, h2', h3, _, _, h4⟩
          · exact .inr hD
        · exact cond_f rfl ⟨S2, netNil, x, 4, .rows hs hrows' (.ends hne hbad), .inr ⟨rfl, rfl, hb8, hC8⟩⟩

theorem rnet_nil (w : World) : RNet w ⟨none, 0, 0⟩ ⟨none, 0, 0⟩ ⟨none, 0, 0⟩ netNil :=
  ⟨((OwnL.nil (α := Sl) w 0 T.t_sl_i_End).rep (by simp)).any |> fun _ => ⟨rfl, ⟨Nat.le_refl _, by simp⟩, fun i x hx => by simp [netNil] at hx⟩, ((OwnL.nil w 0 T.t_int).rep (by simp)).any, ((OwnL.nil w 0 T.t_int).rep (by simp)).any⟩

theorem sParseNetwork_ok {w : World} {l : List UInt8} (hl : l.length ≤ 1048576) :
    Calls Tryd.prog F.s_ParseNetwork #[.string (mkS l)] w (Ret [.agg [.sl, .sl, .sl], .at (.int .i64), .at (.int .i64)] fun (x y z : Sl) (a c : Int) w' => Ext w w' ∧ ∃ n, NetAns l n a c ∧ RNet w' x y z n) := by
  refine C_s_ParseNetwork ?_
  unfold V_s_ParseNetwork
  refine NEW_intro fun p2 w1 hp2 hs1 hE1 hb1 => ?_
  refine NEW_intro fun p7 w2 hp7 hs2 hE2 hb2 => ?_
  have hl2 := (hb1.ext hE2).lt
  have hl7 := hb2.lt
  have hne : p7.block ≠ p2.block := by have := hb1.lt; omega
  have hz1 := hE1.size_le
  have hz2 := hE2.size_le
  have h0 : LineSt (fun b => b = p2.block ∨ b = p7.block) w2.heap.size w2 w2 p7 T.t_s_txRead rd0 [] 0 0 :=
    ⟨St.zero w2 _ (Nat.le_refl _) (fun b hb => by rcases hb with rfl | rfl; exact hl2; exact hl7), hb2, ⟨rfl, rfl, rfl, rfl, rfl, fun v r hv => by simp at hv⟩, rfl, Chg.refl _ _⟩
  refine call (all_ok h0 (.inr rfl) hl) ?_
  rintro ok w3 ⟨S', n, x, c, hA, hD⟩
  have hE : ∀ {w' : World}, Chg w2 w' (DY (fun b => b = p2.block ∨ b = p7.block) w2.heap.size p7) → Ext w w' ∧ Box w' p2 T.t_i_Network [.slice none 0 0, .slice none 0 0, .slice none 0 0] := fun hC =>
    ⟨hC.ext0 (hE1.trans hE2) fun k hk => by
      rcases hk with hk | hk
      · have := hk.2; omega
      · omega, (hb1.ext hE2).chg hC fun hk => by
      rcases hk with hk | hk
      · exact hk.1 (.inl rfl)
      · exact hne hk.symm⟩
  have st : ∀ {w' : World} {u v z : Sl} {K : World → Prop}, Ext w w' → Box w' p2 T.t_i_Network [.slice none 0 0, .slice none 0 0, .slice none 0 0] → (∀ w'', Ext w w'' → Chg w' w'' (fun b => b = p2.block) → Box w'' p2 T.t_i_Network [u.v, v.v, z.v] → K w'') → GX.ST p2 0 [u.v, v.v, z.v] w' K := fun hE' hb' hk =>
    ST_all hb' (one3 _ _ _) rfl fun w'' hs'' _ hb'' => hk w'' (hs''.ext0 hE' fun k hk => by cases hk; omega) (.of_step hs'' fun k hk => by cases hk; rfl) hb''
  rcases hD with ⟨rfl, rfl, rfl, c1, a1, hD⟩ | ⟨rfl, rfl, hb3, hC3⟩
  · obtain ⟨hE3, hb3⟩ := hE hD.chg
    refine cond_f rfl ?_
    rw [add_zero']
    refine LD_box3 hD.box (st hE3 hb3 fun w6 hE6 hC6 hb6 => LD_box3 hb6 ⟨hE6, n, hA, ?_⟩)
    have h6 := hD.st.other hC6 fun b hb => .inl hb
    rw [hD.net]
    exact ⟨h6.rEnds, h6.rIds, h6.rInp⟩
  · obtain ⟨hE3, hb32⟩ := hE hC3
    refine cond_t rfl fun w4 hE4 _ => ?_
    have hb4 := hb3.ext hE4
    refine ⟨fun b => b = p2.block, hne, ?_⟩
    refine LD_int (hb4.cell (i := 7) rfl) ⟨hne, LD_int (hb4.cell (i := 6) rfl) ?_⟩
    refine st (u := ⟨none, 0, 0⟩) (v := ⟨none, 0, 0⟩) (z := ⟨none, 0, 0⟩) (hE3.trans hE4) (hb32.ext hE4) fun w5 hE5 hC5 hb5 => ⟨hC5, hC5, LD_box3 hb5 ⟨hE5, netNil, hA, rnet_nil _⟩⟩

end Go.Proofs.YtcldmpllpfojhaaDoor
end

section
/- Reading a network's text, the program's side: the whole text, the answer. -/
namespace Go.Proofs.YtcldmpllpfojhaaDoor
open Go.GX Go.RowKit
set_option maxRecDepth 100000

theorem Chg_lt {a b : World} {D D' : Nat → Prop} (h : Chg a b D) (hD : ∀ k, k < a.heap.size → D k → D' k) : Chg a b D' := ⟨h.os, h.tape, h.output, h.size, fun k hk hn => h.block k hk fun hd => hn (hD k hk hd)⟩

theorem rowQ_lat {ws : List Wd} {a : Nat} {r : PR} (h : rowQ ws a = .ok r) : r.lat = a := by
  unfold rowQ mkPR at h
  split at h
  · cases h
  · cases h; rfl
theorem rowsP_lat : ∀ {L : List Wd} {rs out : List PR}, rowsP L rs = .ok out → out.map (·.lat) = rs.map (·.lat) ++ L.map fun x => (x.2 : Int)
  | [], rs, out, h => by
    have : out = rs := by unfold rowsP at h; cases h; rfl
    subst this; simp
  | (t, a) :: L, rs, out, h => by
    unfold rowsP at h
    split at h
    · cases h
    · split at h
      · cases h
      · rename_i r hr
        rw [rowsP_lat h, List.map_append, List.map_cons, List.map_cons, rowQ_lat hr]
        simp

theorem read_ok {X : Nat → Prop} {w : World} {x0 : Addr} (hX : X x0.block) (hXl : ∀ b, X b → b < w.heap.size) (hb : Box w x0 T.t_i_networkReader (bxI rd0 ⟨none, 0, 0⟩ false)) (hg : ∀ w', Chg w w' (fun b => b = x0.block) → GV w')
    {l : List UInt8} (hl : l.length ≤ 1048576) :
    Calls Tryd.prog F.ptr_i_networkReader_read #[.pointer (some x0), .string (mkS l)] w (Ret [.agg [.int .i64, .int .i64]] fun (f c : Int) w' => ∃ n, NetAns l n f c ∧ Chg w w' (fun b => b = x0.block) ∧ ((c = 0 ∧ f = 0 ∧ ∃ base w0, w.heap.size ≤ base ∧ DoneI X base w0 w' x0 n) ∨ (c ≠ 0 ∧ n = netNil))) := by
  refine C_ptr_i_networkReader_read ?_
  unfold V_ptr_i_networkReader_read
  refine NEW_intro fun p4 w1 hp4 hs1 hE1 hb4 => ?_
  rw [mkS_size]
  refine cond_dec (fun hlong => ?_) (fun hshort => ?_)
  · exact fault_done hp4 hE1 hb4 (Ext.refl _) 0 1 fun w' hE' _ => ⟨netNil, .long (by omega), .of_ext hE', .inr ⟨by decide, rfl⟩⟩
  have hs : ¬ 6000 < l.length := by omega
  refine call (linesOf_ok hl) ?_
  rintro ls w3 ⟨hE3, hO3⟩
  have hE13 := hE1.trans hE3
  have hlt0 := hb.lt
  have hz1 := hE1.size_le
  have hz3 := hE3.size_le
  have hlt4 := hb4.lt
  refine ST_boxC (p := x0) (hb.ext hE13) (i := 3) (by simp) rfl fun w4 hC4 hb04 => ?_
  have hz4 := hC4.size
  have hC04 : Chg w w4 (fun b => b = x0.block) := (Chg.of_ext hE13).trans hC4
  have hb44 : Box w4 p4 T.t_i_fault [.int .i64 0, .int .i64 0] := (hb4.ext hE3).chg hC4 fun hd => by omega
  obtain ⟨L, hLe⟩ : ∃ L, L = linesG l 0 := ⟨_, rfl⟩
  rw [← hLe] at hO3
  have hLm : ∀ x ∈ L, x.1.length ≤ 1048576 ∧ x.2 ≤ 1048576 := fun x hx => by
    rw [hLe] at hx
    have := linesG_mem _ 0 rfl hx
    omega
  have hLl : L.length ≤ 1048576 := by have := linesG_len (l := l) _ 0 rfl; rw [hLe]; omega
  have hO4 : OwnL w4 w1.heap.size T.t_i_textLine ls (L.map wrec) := hO3.chg hC4 fun b hb' hd => by
    have := (hO3.blk b hb').1
    have hd' : b = x0.block := hd
    omega
  have hLR : ∀ w', Chg w4 w' (DZ w4.heap.size x0) → R w' ls (L.map wrec) := fun w' hC => by
    have hO : OwnL w' w1.heap.size T.t_i_textLine ls (L.map wrec) := hO4.chg hC fun b hb' hd => by
      have := hO4.blk b hb'
      rcases hd with hd | hd <;> omega
    refine (hO.rep fun x hx => ?_).any
    obtain ⟨y, hy, rfl⟩ := List.mem_map.1 hx
    have := hLm y hy
    show I64 (y.2 : Int)
    unfold I64; omega
  have toC : ∀ {w' : World}, Chg w4 w' (DZ w4.heap.size x0) → Chg w w' (fun b => b = x0.block) := fun hC => Chg_lt ((hC04.mono fun k hk => .inr hk).trans hC) fun k hk hd => by
    rcases hd with hd | hd
    · omega
    · exact hd
  have hg4 : ∀ w', Chg w4 w' (DZ w4.heap.size x0) → GV w' := fun w' hC => hg w' (toC hC)
  have px4 : ∀ {w' : World}, Chg w4 w' (DZ w4.heap.size x0) → Box w' p4 T.t_i_fault [.int .i64 0, .int .i64 0] := fun hC => hb44.chg hC fun hd => by rcases hd with hd | hd <;> omega
  -- the end: the fault is handed on
  have fin : ∀ {w' : World} {f c : Int}, Chg w4 w' (DZ w4.heap.size x0) → ∀ n, NetAns l n f c → ((c = 0 ∧ f = 0 ∧ DoneI X w4.heap.size w4 w' x0 n) ∨ (c ≠ 0 ∧ n = netNil)) →
      GX.ST p4 0 [.int .i64 f, .int .i64 c] w' fun w'' => LD [.int .i64, .int .i64] p4 w'' fun (f' c' : Int) => ∃ n, NetAns l n f' c' ∧ Chg w w'' (fun b => b = x0.block) ∧ ((c' = 0 ∧ f' = 0 ∧ ∃ base w0, w.heap.size ≤ base ∧ DoneI X base w0 w'' x0 n) ∨ (c' ≠ 0 ∧ n = netNil)) := by
    intro w' f c hC n hn hA
    refine ST_all (px4 hC) (Go.GX.one2 _ _) rfl fun w'' hs'' _ hb'' => LD_box2 hb'' ?_
    have hC2 : Chg w' w'' (fun b => b = p4.block) := .of_step hs'' fun k hk => by cases hk; rfl
    refine ⟨n, hn, Chg_lt (D := fun b => b = x0.block ∨ b = p4.block) (((toC hC).mono fun k hk => .inl hk).trans (hC2.mono fun k hk => .inr hk)) fun k hk hd => by
      rcases hd with hd | hd
      · exact hd
      · omega, ?_⟩
    rcases hA with ⟨rfl, rfl, ⟨S, ls', any, hS, hbS, hne⟩, hCh⟩ | hA
    · refine .inl ⟨rfl, rfl, w4.heap.size, w'', by omega, ⟨S, ls', any, ?_, hbS.chg hC2 (fun hd => by omega), hne⟩, Chg.refl _ _⟩
      obtain ⟨own, hS⟩ := hS
      have hno : ∀ (i : Nat) {b : Nat}, w4.heap.size ≤ b → ¬ b = p4.block := fun _ b hb' => by omega
      have ho : ∀ b, b < w'.heap.size → own b = own b := fun _ _ => rfl
      -- the fault's variable lies below the lists
      have oI : ∀ {i : Nat} {s : Sl} {m : List Int}, OL T.t_int own i w4.heap.size w' s m → OL T.t_int own i w4.heap.size w'' s m := fun h' => ⟨h'.mem.chg hC2 fun b hb' hd => by have := (h'.mem.blk b hb').1; omega, h'.blk, h'.ok⟩
      refine ⟨own, ⟨?_, oI hS.ids, oI hS.inp, oI hS.fs, oI hS.gs, ?_, fun b hb' => ⟨(hS.box b hb').1, Nat.lt_of_lt_of_le (hS.box b hb').2 hC2.size⟩, Nat.le_trans hS.bs hC2.size, by simp, by simp, by simp⟩⟩
      · obtain ⟨ss, h1, h2⟩ := hS.ends.ex
        exact ⟨⟨ss, rowsKeep h1 fun b hb' => hC2.block b (rowsBlk h1 hb').2 fun hd => by have := (rowsBlk h1 hb').1; omega, h2⟩, hS.ends.ok⟩
      · obtain ⟨ss, h1, h2⟩ := hS.ports.ex
        exact ⟨⟨ss, rowsKeep h1 fun b hb' => hC2.block b (rowsBlk h1 hb').2 fun hd => by have := (rowsBlk h1 hb').1; omega, h2⟩, hS.ports.ok⟩
    · exact .inr hA
  refine LD_sl (hb04.cell (i := 3) rfl) ?_
  have hlsl : ls.len = L.length := by have := hO3.1; simpa using this
  rw [hlsl]
  have hI0 : LineI X w4.heap.size w4 w4 x0 rd0 ls false [] := ⟨St.zero w4 _ (Nat.le_refl _) (fun b hb' => by have := hXl b hb'; omega), hb04, ⟨rfl, rfl, rfl, rfl, rfl, fun v r hv => by simp at hv⟩, by simp [NoIds], Chg.refl _ _⟩
  refine ⟨IN L.length fun i w' => ∃ S rs any, LineI X w4.heap.size w4 w' x0 S ls any rs ∧ rowsP (L.drop i) rs = rowsP L [] ∧ (∀ r ∈ rs, r.Ok) ∧ rs.length ≤ 40, MN L.length, IN_zero ⟨rd0, [], false, hI0, rfl, by simp, by simp⟩, ?_⟩
  rintro _ w5 ⟨i, rfl, hi, S5, rs, any, h5, hrows, hok, hr⟩
  intros
  refine cond_dec (fun hlt => ?_) (fun hge => ?_)
  · have hi' : i < L.length := by omega
    obtain ⟨hm1, hm2⟩ := hLm _ (List.getElem_mem hi')
    have hdrop : L.drop i = L[i] :: L.drop (i + 1) := List.drop_eq_getElem_cons hi'
    refine SlR_ixW (hLR _ h5.chg) hi' fun p hc0 hc1 => LD_si hc0 hc1 ?_
    refine NEW_ST (one2s _ _) rfl fun pl w7 hpl hE7 hbl => ?_
    refine LD_si (hbl.cell (i := 0) rfl) (hbl.cell (i := 1) rfl) ?_
    refine call (iLine_ok (h5.ext hE7) hX hg4 hr (l := L[i].1) hm1 (a := L[i].2) hm2) ?_
    rintro f c w8 hA
    refine NEW_ST (Go.GX.one2 _ _) rfl fun pf w10 hpf hE10 hbf => ?_
    refine LD_int (hbf.cell (i := 1) rfl) ?_
    rcases hA with ⟨rfl, rfl, h40, r, S', any', hq, h8⟩ | ⟨hc, hbad, hC8⟩
    · refine cond_ne (fun hne => absurd rfl hne) fun _ => ?_
      refine IN_next (by omega) hi' ⟨S', rs ++ [r], any', h8.ext hE10, ?_, fun q hq' => ?_, by simp; omega⟩
      · rw [← hrows, hdrop]
        conv => rhs; unfold rowsP
        rw [if_neg (by omega), hq]
      · rcases List.mem_append.1 hq' with hq' | hq'
        · exact hok q hq'
        · rw [List.mem_singleton.1 hq']; exact rowQ_ok hq
    · refine cond_ne (fun _ => LD_box2 hbf ?_) fun he => absurd he hc
      refine fin (hC8.trans (.of_ext hE10)) netNil (.bad (f := (f, c)) hs ?_) (.inr ⟨hc, rfl⟩)
      rw [← hLe, ← hrows, hdrop]
      exact hbad _
  · have : i = L.length := by omega
    subst this
    rw [List.drop_length] at hrows
    have hrows' : rowsP (linesG l 0) [] = .ok rs := by rw [← hLe, ← hrows]; rfl
    have hlat : rs.map (·.lat) = L.map fun x => (x.2 : Int) := by
      have := rowsP_lat (hLe ▸ hrows' : rowsP L [] = .ok rs)
      simpa using this
    have hrl : rs.length = L.length := by have := congrArg List.length hlat; simpa using this
    refine LD_sl (h5.box.cell (i := 3) rfl) ?_
    rw [hlsl]
    refine cond_eq (fun e0 => ?_) (fun n0 => ?_)
    · exact fin h5.chg netNil (.rows hs hrows' (.none (List.length_eq_zero_iff.1 (by omega)))) (.inr ⟨by decide, rfl⟩)
    · have hne : rs ≠ [] := fun e => n0 (by rw [← hrl, e]; rfl)
      refine call (iEnds_ok h5 hok hr) ?_
      rintro f c w13 hA
      refine NEW_ST (Go.GX.one2 _ _) rfl fun pf w15 hpf hE15 hbf => ?_
      refine LD_int (hbf.cell (i := 1) rfl) ?_
      rcases hA with ⟨rfl, rfl, hends, h13⟩ | ⟨rfl, hbad, hC13⟩
      · refine cond_ne (fun hne => absurd rfl hne) fun _ => ?_
        refine call (iIds_ok (h13.ext hE15) hX hne hends hLR hlat) ?_
        rintro f c w17 ⟨n, hn, hA⟩
        rcases hA with ⟨rfl, rfl, hD⟩ | ⟨hc, rfl, hC⟩
        · exact fin hD.chg n (.rows hs hrows' hn) (.inl ⟨rfl, rfl, hD⟩)
        · exact fin hC netNil (.rows hs hrows' hn) (.inr ⟨hc, rfl⟩)
      · refine cond_ne (fun _ => LD_box2 hbf ?_) fun he => absurd he (by decide)
        exact fin (hC13.trans (.of_ext hE15)) netNil (.rows hs hrows' (.ends hne hbad)) (.inr ⟨by decide, rfl⟩)

end Go.Proofs.YtcldmpllpfojhaaDoor
end

section
/- Networks read from a text as answers: where they lie, what marks do to them (the marks of ends are XFailNet's, for seats without the texts it needs). -/
namespace Go.GX
open Go.RowKit

end Go.GX
namespace Go.Proofs.YtcldmpllpfojhaaDoor
open Go.GX Go.RowKit
set_option maxRecDepth 100000

abbrev Pt := Int × Int

/-! ### Marks -/

def marksE (k : Int) (n : Nat) : List Pt := (List.range n).map fun (i : Nat) => (k + 2 * (i : Int), k + 2 * (i : Int) + 1)
def preE (L : Ends) (i : Nat) : Nat := ((L.take i).map fun r => 2 * r.length).sum
def marks2E (k : Int) (L : Ends) : Ends := (List.range L.length).map fun i => marksE (k + preE L i) (L.getD i []).length
/-! ### The answer -/

/-- A network of the call's own, identifiers too. -/
structure OutT (base top : Nat) (w : World) (x y z : Sl) (n : Net) : Prop where
  ends : ∃ ss, RowsD w base T.t_i_End T.t_sl_i_End x n.ends ss ∧ ∀ b, MB x ss b → b < top
  ids : OwnL w base T.t_int y n.ids ∧ ∀ b, oB y b → b < top
  inputs : OwnL w base T.t_int z n.inputs ∧ ∀ b, oB z b → b < top
  apart : ∀ b, oB y b → ¬ oB z b
  i64 : (∀ r ∈ n.ends, ∀ e ∈ r, I64 e.1 ∧ I64 e.2) ∧ (∀ e ∈ n.ids, I64 e) ∧ ∀ e ∈ n.inputs, I64 e
  small : (n.ends.length ≤ 1000 ∧ ∀ r ∈ n.ends, r.length ≤ 1000) ∧ n.ids.length ≤ 1000 ∧ n.inputs.length ≤ 1000

section
variable {base top : Nat} {w w' : World} {x y z : Sl} {n : Net}
theorem OutT.net (h : OutT base top w x y z n) : RNet w x y z n := by
  obtain ⟨ss, h1, _⟩ := h.ends
  exact ⟨h1.rep fun r hr e he => h.i64.1 r hr e he, (h.ids.1.rep h.i64.2.1).any, (h.inputs.1.rep h.i64.2.2).any⟩
theorem OutT.keep (h : OutT base top w x y z n) (hk : ∀ b, base ≤ b → b < top → b < w.heap.size → w'.heap[b]? = w.heap[b]?) : OutT base top w' x y z n := by
  obtain ⟨ss, h1, h2⟩ := h.ends
  exact ⟨⟨ss, rowsKeep h1 fun b hb => hk b (rowsBlk h1 hb).1 (h2 b hb) (rowsBlk h1 hb).2, h2⟩, ⟨h.ids.1.keep fun b hb => hk b (h.ids.1.blk b hb).1 (h.ids.2 b hb) (h.ids.1.blk b hb).2, h.ids.2⟩, ⟨h.inputs.1.keep fun b hb => hk b (h.inputs.1.blk b hb).1 (h.inputs.2 b hb) (h.inputs.1.blk b hb).2, h.inputs.2⟩, h.apart, h.i64, h.small⟩
theorem OutT.ext (h : OutT base top w x y z n) (hE : Ext w w') : OutT base top w' x y z n := h.keep fun _ _ _ h4 => hE.same h4
theorem OutT.nil (base top : Nat) (w : World) : OutT base top w ⟨none, 0, 0⟩ ⟨none, 0, 0⟩ ⟨none, 0, 0⟩ netNil :=
  ⟨⟨[], RowsD.nil _ _ _ _, fun b hb => by
    rcases hb with hb | ⟨r, hr, _⟩
    · cases hb
    · cases hr⟩, ⟨OwnL.nil _ _ _, fun b hb => by cases hb⟩, ⟨OwnL.nil _ _ _, fun b hb => by cases hb⟩, (fun b hb => by cases hb), ⟨by simp [netNil], by simp [netNil], by simp [netNil]⟩, by simp [netNil]⟩
end

theorem RowsAns.of {rs : List PR} {n : Net} {x c : Int} (h : RowsAns rs n x c) : (n = netNil ∧ c ≠ 0) ∨ (c = 0 ∧ rs ≠ [] ∧ ∃ b, n = netR rs b) := by
  cases h with
  | none _ => exact .inl ⟨rfl, by decide⟩
  | ends _ _ => exact .inl ⟨rfl, by decide⟩
  | noIds h0 _ _ => exact .inr ⟨rfl, h0, _, rfl⟩
  | badId _ _ _ _ => exact .inl ⟨rfl, by decide⟩
  | good h0 _ _ _ => exact .inr ⟨rfl, h0, _, rfl⟩
/-- What an answer is made of. -/
theorem NetAns.of {s : List UInt8} {n : Net} {x c : Int} (h : NetAns s n x c) (hc : c = 0) : ∃ rs b, n = netR rs b ∧ rs ≠ [] ∧ (∀ r ∈ rs, r.Ok) ∧ rs.length ≤ 40 := by
  cases h with
  | long _ => cases hc
  | @bad f h1 h2 =>
    exfalso
    have : ∀ {L : List Wd} {rs : List PR} {f : Int × Int}, rowsP L rs = .error f → f.2 ≠ 0 := by
      intro L
      induction L with
      | nil => intro rs f h; unfold rowsP at h; cases h
      | cons a L ih =>
        intro rs f h
        obtain ⟨t, a⟩ := a
        unfold rowsP at h
        split at h
        · cases h; show (3 : Int) ≠ 0; decide
        · split at h
          · rename_i g hg
            cases h
            have hp : ∀ {ws : List Wd} {E : List (Int × Int)} {P : List Int} {f : Int × Int}, portsD ws E P = .error f → f.2 ≠ 0 := by
              intro ws
              induction ws with
              | nil => intro E P f h; unfold portsD at h; cases h
              | cons q ws ih2 =>
                intro E P f h
                obtain ⟨w, b⟩ := q
                unfold portsD at h
                split at h
                · cases h; show (2 : Int) ≠ 0; decide
                · split at h
                  · cases h; show (3 : Int) ≠ 0; decide
                  · exact ih2 h
            unfold rowQ mkPR at hg
            split at hg
            · rename_i f' hf'
              cases hg
              exact hp hf'
            · cases hg
          · exact ih h
    exact this h2 hc
  | rows h1 h2 h3 =>
    obtain ⟨h4, h5, _⟩ := rowsP_ok h2 (by simp) (by simp)
    rcases h3.of with ⟨_, h6⟩ | ⟨_, h6, b, h7⟩
    · exact absurd hc h6
    · exact ⟨_, b, h7, h6, h4, h5⟩
theorem netR_small {rs : List PR} {b : Bool} (hok : ∀ r ∈ rs, r.Ok) (hl : rs.length ≤ 40) : ((netR rs b).ends.length ≤ 1000 ∧ ∀ r ∈ (netR rs b).ends, r.length ≤ 1000) ∧ (netR rs b).ids.length ≤ 1000 ∧ (netR rs b).inputs.length ≤ 1000 := by
  refine ⟨⟨by simp [netR, endsR]; omega, fun r hr => ?_⟩, ?_, by simp [netR, inpsR]; omega⟩
  · obtain ⟨q, hq, rfl⟩ := List.mem_map.1 hr
    have := (hok q hq).six
    omega
  · unfold netR
    cases b
    · simp
    · simp [idsR]; omega

theorem ParseNetwork_ok {w : World} (g : GV w) {l : List UInt8} (hl : l.length ≤ 1048576) :
    Calls Tryd.prog F.i_ParseNetwork #[.string (mkS l)] w (Ret [.agg [.sl, .sl, .sl], .at (.int .i64), .at (.int .i64)] fun (x y z : Sl) (a c : Int) w' => Ext w w' ∧ ∃ n base, NetAns l n a c ∧ w.heap.size ≤ base ∧ OutT base w'.heap.size w' x y z n) := by
  refine C_i_ParseNetwork ?_
  unfold V_i_ParseNetwork
  refine NEW_intro fun p2 w1 hp2 hs1 hE1 hb1 => ?_
  refine NEW_intro fun p8 w2 hp8 hs2 hE2 hb2 => ?_
  have hl2 := (hb1.ext hE2).lt
  have hl8 := hb2.lt
  have hne : p8.block ≠ p2.block := by have := hb1.lt; omega
  have hz1 := hE1.size_le
  have hz2 := hE2.size_le
  have hE12 := hE1.trans hE2
  refine call (read_ok (X := fun b => b = p2.block ∨ b = p8.block) (.inr rfl) (fun b hb => by rcases hb with rfl | rfl; exact hl2; exact hl8) hb2 (fun w' hC => g.ext (hC.ext0 hE12 fun k hk => by omega)) hl) ?_
  rintro f c w3 ⟨n, hn, hC3, hA⟩
  have hE03 : Ext w w3 := hC3.ext0 hE12 fun k hk => by omega
  have hb13 := (hb1.ext hE2).chg hC3 fun hd => hne hd.symm
  refine NEW_ST (Go.GX.one2 _ _) rfl fun pf w5 hpf hE5 hbf => ?_
  refine LD_int (hbf.cell (i := 1) rfl) ?_
  have st : ∀ {w' : World} {u v z : Sl} {K : World → Prop}, Ext w3 w' → (∀ w'', Ext w w'' → Chg w' w'' (fun b => b = p2.block) → Box w'' p2 T.t_i_Network [u.v, v.v, z.v] → K w'') → GX.ST p2 0 [u.v, v.v, z.v] w' K := fun hE' hk =>
    ST_all (hb13.ext hE') (one3 _ _ _) rfl fun w'' hs'' _ hb'' => hk w'' (hs''.ext0 (hE03.trans hE') fun k hk => by cases hk; omega) (.of_step hs'' fun k hk => by cases hk; rfl) hb''
  rcases hA with ⟨rfl, rfl, base, w0, hbase, hD⟩ | ⟨hc, rfl⟩
  · refine cond_ne (fun hne => absurd rfl hne) fun _ => ?_
    obtain ⟨S, ls, any, hS, hb, rfl⟩ := hD.ex
    rw [add_zero']
    refine LD_box3 (hb.ext hE5) (st hE5 fun w8 hE8 hC8 hb8 => LD_box3 hb8 ⟨hE8, _, base, hn, by omega, ?_⟩)
    obtain ⟨rs, b, hrs, _, hok, hr⟩ := hn.of rfl
    obtain ⟨own, h8⟩ := (hS.ext hE5).other hC8 fun b hb => .inl hb
    obtain ⟨ss, h1, h2⟩ := h8.ends.ex
    refine ⟨⟨ss, h1, fun b hb => (rowsBlk h1 hb).2⟩, ⟨h8.ids.mem, fun b hb => (h8.ids.mem.blk b hb).2⟩, ⟨h8.inp.mem, fun b hb => (h8.inp.mem.blk b hb).2⟩, fun b hb hb' => ?_, ⟨fun r hr e he => h8.ends.ok r hr e he, h8.ids.ok, h8.inp.ok⟩, by rw [hrs]; exact netR_small hok hr⟩
    have e1 := h8.ids.blk b hb
    have e2 := h8.inp.blk b hb'
    omega
  · refine cond_ne (fun _ => ?_) fun he => absurd he hc
    intro w6 hE6 _
    have hbf6 := hbf.ext hE6
    have hpfl := hbf.lt
    have hz3 := hC3.size
    have hnf : ¬ pf.block = p2.block := by omega
    refine ⟨fun b => b = p2.block, hnf, LD_int (hbf6.cell (i := 0) rfl) ⟨hnf, LD_int (hbf6.cell (i := 1) rfl) ?_⟩⟩
    refine st (u := ⟨none, 0, 0⟩) (v := ⟨none, 0, 0⟩) (z := ⟨none, 0, 0⟩) (hE5.trans hE6) fun w7 hE7 hC7 hb7 => ⟨hC7, hC7, LD_box3 hb7 ⟨hE7, netNil, w.heap.size, hn, Nat.le_refl _, OutT.nil _ _ _⟩⟩

/-- A network whose cells hold marks. -/
structure MarkedT (w : World) (x y z : Sl) (n : Net) (k : Int) : Prop where
  ends : R w x (marks2E 1 n.ends)
  ids : R w y (marks (1 + preE n.ends n.ends.length) n.ids.length)
  inputs : R w z (marks (1 + preE n.ends n.ends.length + n.ids.length) n.inputs.length)
  val : k = 1 + preE n.ends n.ends.length + n.ids.length + n.inputs.length
  small : (n.ends.length ≤ 1000 ∧ ∀ r ∈ n.ends, r.length ≤ 1000) ∧ n.ids.length ≤ 1000 ∧ n.inputs.length ≤ 1000

theorem MarkedT.ext {w w' : World} {x y z : Sl} {n : Net} {k : Int} (h : MarkedT w x y z n k) (hE : Ext w w') : MarkedT w' x y z n k := ⟨h.ends.ext hE, h.ids.ext hE, h.inputs.ext hE, h.val, h.small⟩

end Go.Proofs.YtcldmpllpfojhaaDoor
end

section
/- The tidy text of a network: both sides. -/
namespace Go.GX
open Go.RowKit
theorem QCALL_str {P : Program} {f : FuncId} {args : Array Value} {w : World} {K : ByteArray → Prop} (b : ByteArray)
    (h : ∀ w', Ext w w' → Calls P f args w' (Ret [.at .str] fun (c : ByteArray) w'' => c = b ∧ Ext w' w'')) (hk : K b) : QCALL P f args w [.at .str] K :=
  ⟨.string b, [.string b], rfl, fun w' hw => (h w' hw).mono fun e w'' he => by
    cases e with
    | returned v =>
      simp only [Ret] at he
      cases v <;> simp [unR, Sh.cells, app, At.un, atsR, botW] at he
      obtain ⟨rfl, h2⟩ := he
      exact ⟨rfl, h2⟩
    | panicked _ => exact he.elim
    | outgrown => exact he.elim, hk⟩
end Go.GX
namespace Go.Proofs.YtcldmpllpfojhaaDoor
open Go.GX Go.RowKit
open Go.Lib (decDigits)
set_option maxRecDepth 100000

/-! ### A builder of the call's own -/

theorem Srt.lays166 : Go.Proofs.Lays.n166 Tryd.prog Srt.lays156_ren := { Srt.lays156 with }

/-- A builder that holds bytes. -/
def Bld (w : World) (B : Nat) (p : Addr) (l : List UInt8) : Prop := ∃ b, p = ⟨b, 0, none⟩ ∧ Go.Lib.IsBuilder (Srt.lays156_ren.t 72) (Srt.lays156_ren.t 5) B b (Go.Lib.byteCells l) w

theorem builderAt_ext {T e : TypeId} {B b : Nat} {p : Value} {bs : List Value} {w w' : World} (h : Go.Lib.BuilderAt T e B b p bs w) (hE : Ext w w') : Go.Lib.BuilderAt T e B b p bs w' := by
  have hlt := h.lt
  obtain ⟨hB, v, hb, hown, hne⟩ := h
  refine ⟨hB, v, by rw [hE.same hlt]; exact hb, ?_, hne⟩
  exact hown.kept (row := some b) ⟨hE.os, hE.tape, hE.output, hE.size, fun k hk _ => hE.same hk⟩ (.inr hne)
theorem Bld.ext {w w' : World} {B : Nat} {p : Addr} {l : List UInt8} (h : Bld w B p l) (hE : Ext w w') : Bld w' B p l := by
  obtain ⟨b, rfl, h | h⟩ := h
  · exact ⟨b, rfl, .inl (builderAt_ext h hE)⟩
  · exact ⟨b, rfl, .inr (builderAt_ext h hE)⟩

theorem Bld.fresh {w : World} {B : Nat} {p : Addr} (hb : Box w p T.t_strings_Builder [.pointer none, .slice none 0 0]) (hB : B ≤ p.block) : Bld w B p [] := by
  obtain ⟨b, o, sp⟩ := p
  obtain ⟨h1, h2, h3⟩ := hb
  simp only at h1 h2 h3 hB
  subst h1; subst h2
  exact ⟨b, rfl, .inl ⟨hB, .slice none 0 0, h3, World.ownsRow_nil w B _ 1, by simp [Value.ownBlock]⟩⟩

theorem WriteString_ok {w : World} {B : Nat} {p : Addr} {l m : List UInt8} (h : Bld w B p l) (hB : B ≤ w.heap.size) (hl : l.length + m.length ≤ 140737488355328) :
    Calls Tryd.prog F.ptr_strings_Builder_WriteString #[.pointer (some p), .string (mkS m)] w (Ret [.at (.int .i64), .at .val] fun (_ : Int) (_ : Value) w' => Below B w w' ∧ Bld w' B p (l ++ m)) := by
  obtain ⟨b, rfl, h⟩ := h
  refine (Any.Builder_WriteString Srt.lays166 Srt.Builder_Extra_156 B b (Go.Lib.byteCells l) (mkS m) w h (by unfold Go.Lib.byteCells; rw [List.length_map, mkS_size]; exact hl) hB).mono ?_
  rintro e w' ⟨rfl, h1, h2⟩
  refine ⟨h2, b, rfl, .inr ?_⟩
  have : Go.Lib.byteCells (l ++ m) = Go.Lib.byteCells l ++ Go.Lib.strCells (mkS m) := by
    unfold Go.Lib.byteCells Go.Lib.strCells
    rw [List.map_append, mkS_data]
  rw [this]; exact h1

theorem BString_ok {w : World} {B : Nat} {p : Addr} {l : List UInt8} (h : Bld w B p l) (hB : B ≤ w.heap.size) :
    Calls Tryd.prog F.ptr_strings_Builder_String #[.pointer (some p)] w (Ret [.at .str] fun (r : ByteArray) w' => r = mkS l ∧ Below B w w') := by
  obtain ⟨b, rfl, h⟩ := h
  refine (Srt.Builder_String_any B b l w h hB).mono ?_
  rintro e w' ⟨rfl, h2⟩
  exact ⟨rfl, h2⟩

/-! ### Words -/

/-- One word more. -/
theorem RUN_word {w0 w : World} {b : Nat} {s : Sl} {ws : List (List UInt8)} (hE : Ext w0 w) (hb : w0.heap.size ≤ b ∧ b ≤ w.heap.size) (hO : OwnL w b T.t_string s (ws.map mkS)) (hl : ws.length ≤ 1000) (x : List UInt8) {K : Sl → World → Prop}
    (hk : ∀ r w', Ext w0 w' → b ≤ w'.heap.size → OwnL w' b T.t_string r ((ws ++ [x]).map mkS) → K r w') :
    RUN Tryd.prog (.at .sl) (Instr.buildSlice T.t_sl_string 1 #[(0, .string (mkS x))]) w fun y w3 => RUN Tryd.prog (.at .sl) (bsem .append #[T.t_sl_string, T.t_sl_string] T.t_sl_string #[s.v, y.v]) w3 K := by
  refine RUN_lit1 (α := ByteArray) slt_str (mkS x) rfl (by decide) fun y w3 hE3 hO3 => ?_
  have hz3 := hE3.size_le
  have hOb := hO.ext hE3
  refine RUN_append (α := ByteArray) slt_str hOb (by omega) (hO3.rep (strs_ok _)).any (by simp; omega) (by simp [maxLen]; omega) fun r w4 hO4 hs4 => ?_
  have hz4 := hs4.size
  refine hk r w4 (hs4.ext0 (hE.trans hE3) fun k hk => by have := (hOb.blk k hk).1; omega) (by omega) ?_
  rw [List.map_append]; exact hO4

theorem numsz {x : Int} (h0 : 0 ≤ x) (h : x < 1000000) : ((x.toNat : Nat) : Int) = x ∧ (decDigits x.toNat).length ≤ 6 := ⟨by omega, num_few h0 h⟩

theorem PortText_ok {w : World} (g : GP w) {e : Int × Int} (he : 0 ≤ e.1 ∧ e.1 < 1000000 ∧ 0 ≤ e.2 ∧ e.2 < 1000000) :
    Calls Tryd.prog F.i_PortText #[.agg #[.int .i64 e.1, .int .i64 e.2]] w (Ret [.at .str, .at .bool] fun (r : ByteArray) (_ : Bool) w' => r = mkS (endT e) ∧ Ext w w') := by
  refine C_i_PortText ?_
  unfold V_i_PortText
  refine NEW_intro fun p w1 hp hs hE1 hb1 => LD_bi0 hb1 ?_
  refine call (within_ok _ _ _ _) ?_
  rintro _ _ ⟨rfl, rfl⟩
  obtain ⟨e1, l1⟩ := numsz he.1 he.2.1
  obtain ⟨e2, l2⟩ := numsz he.2.2.1 he.2.2.2
  refine cond_not (fun hf => absurd (inR_false hf) (fun hn => hn (by omega))) (fun _ => LD_bi1 hb1 ?_)
  refine call (within_ok _ _ _ _) ?_
  rintro _ _ ⟨rfl, rfl⟩
  refine cond_not (fun hf => absurd (inR_false hf) (fun hn => hn (by omega))) (fun _ => LD_bi0 hb1 ?_)
  have h1 : ∀ w', Ext w1 w' → Calls Tryd.prog F.strconv_Itoa #[.int .i64 e.1] w' (Ret [.at .str] fun (c : ByteArray) w'' => c = mkS (decDigits e.1.toNat) ∧ Ext w' w'') := fun w' hE' => by
    have := Itoa_ok (w := w') ((g.ext hE1).ext hE') (n := e.1.toNat) (by omega)
    rwa [e1] at this
  have h2 : ∀ w', Ext w1 w' → Calls Tryd.prog F.strconv_Itoa #[.int .i64 e.2] w' (Ret [.at .str] fun (c : ByteArray) w'' => c = mkS (decDigits e.2.toNat) ∧ Ext w' w'') := fun w' hE' => by
    have := Itoa_ok (w := w') ((g.ext hE1).ext hE') (n := e.2.toNat) (by omega)
    rwa [e2] at this
  rw [mk_lit [46]]
  refine QCALL_str _ h1 ⟨by rw [mkS_size, mkS_size]; simp only [List.length_cons, List.length_nil]; omega, LD_bi1 hb1 (QCALL_str _ h2 ?_)⟩
  rw [mkS_app]
  refine ⟨by rw [mkS_size, mkS_size]; simp only [List.length_append, List.length_cons, List.length_nil]; omega, fun w5 hE5 => ⟨?_, hE1.trans hE5⟩⟩
  rw [mkS_app]
  simp [endT]

theorem txEnd_ok {w : World} {e : Int × Int} (he : 0 ≤ e.1 ∧ e.1 < 1000000 ∧ 0 ≤ e.2 ∧ e.2 < 1000000) :
    Calls Tryd.prog F.s_txEnd #[.agg #[.int .i64 e.1, .int .i64 e.2]] w (Ret [.at .str] fun (r : ByteArray) w' => r = mkS (endT e) ∧ Ext w w') := by
  refine C_s_txEnd ?_
  unfold V_s_txEnd
  refine NEW_intro fun p w1 hp hs hE1 hb1 => LD_bi0 hb1 ?_
  obtain ⟨e1, l1⟩ := numsz he.1 he.2.1
  obtain ⟨e2, l2⟩ := numsz he.2.2.1 he.2.2.2
  have h1 : ∀ w', Ext w1 w' → Calls Tryd.prog F.s_l1Num #[.int .i64 e.1] w' (Ret [.at .str] fun (c : ByteArray) w'' => c = mkS (decDigits e.1.toNat) ∧ Ext w' w'') := fun w' _ => by
    have := l1Num_ok e.1.toNat (by omega) w'
    rwa [e1] at this
  have h2 : ∀ w', Ext w1 w' → Calls Tryd.prog F.s_l1Num #[.int .i64 e.2] w' (Ret [.at .str] fun (c : ByteArray) w'' => c = mkS (decDigits e.2.toNat) ∧ Ext w' w'') := fun w' _ => by
    have := l1Num_ok e.2.toNat (by omega) w'
    rwa [e2] at this
  rw [mk_lit [46]]
  refine QCALL_str _ h1 ⟨by rw [mkS_size, mkS_size]; simp only [List.length_cons, List.length_nil]; omega, LD_bi1 hb1 (QCALL_str _ h2 ?_)⟩
  rw [mkS_app]
  refine ⟨by rw [mkS_size, mkS_size]; simp only [List.length_append, List.length_cons, List.length_nil]; omega, fun w5 hE5 => ⟨?_, hE1.trans hE5⟩⟩
  rw [mkS_app]
  simp [endT]

theorem wordsT_take {i : Nat} {pre : List (List UInt8)} {row : List (Int × Int)} (hi : i < row.length) : pre ++ (row.take (i + 1)).map endT = (pre ++ (row.take i).map endT) ++ [endT row[i]] := by
  rw [List.take_succ_eq_append_getElem hi, List.map_append, List.append_assoc]; rfl

/-! ### The reference's -/

theorem sNetText_ok {w : World} {x y z : Sl} {n : Net} (h : RNet w x y z n) (hf : Fine n) :
    Calls Tryd.prog F.s_txNet #[.agg #[x.v, y.v, z.v]] w (Ret [.at .str] fun (r : ByteArray) w' => r = mkS (textT n n.ends.length) ∧ Ext w w') := by
  refine C_s_txNet ?_
  unfold V_s_txNet
  refine NEW_intro fun p1 w1 hp1 hs1 hE1 hb1 => LD_bs0 hb1 ?_
  rw [h.1.len, mk_lit [], mk_lit [35]]
  have hlen := hf.len
  refine ⟨IN2 n.ends.length fun v (out : ByteArray) w' => Ext w1 w' ∧ out = mkS (textT n v), MN2 n.ends.length, IN2_zero ⟨Ext.refl _, rfl⟩, ?_⟩
  rintro _ _ w2 ⟨v, rfl, hv, hE2, rfl⟩
  intros
  have hE02 := hE1.trans hE2
  have hb2 := hb1.ext hE2
  refine cond_dec (fun hlt => ?_) (fun hge => ?_)
  · have hv' : v < n.ends.length := by omega
    have hdeg := hf.deg _ (List.getElem_mem hv')
    obtain ⟨hwl, hwm⟩ := hf.words hv'
    have hrow : n.ends.getD v [] = n.ends[v] := by simp [hv']
    have htl := hf.text (k := v) (by omega)
    have hll := hf.line hv'
    refine (h.1.ext hE02).ixL hv' fun p2 r2 hr2 hc2 => LD_sl hc2 (LD_bs1 hb2 ?_)
    rw [h.2.1.len]
    -- the words of the ports, the line
    have k5 : ∀ (s : Sl) (w10 : World), Ext w2 w10 → OwnL w10 w2.heap.size T.t_string s ((idT n v ++ inpT n v).map mkS) → V_s_txNet_k5 (IN2 n.ends.length fun v (out : ByteArray) w' => Ext w1 w' ∧ out = mkS (textT n v)) (MN2 n.ends.length) (v : Int) w2 (mkS (textT n v)) r2 s w10 := by
      intro s w10 hE10 hO10
      unfold V_s_txNet_k5
      rw [hr2.len]
      have hz10 := hE10.size_le
      refine ⟨IN2 n.ends[v].length fun i (s : Sl) w' => Ext w2 w' ∧ w2.heap.size ≤ w'.heap.size ∧ OwnL w' w2.heap.size T.t_string s ((idT n v ++ inpT n v ++ (n.ends[v].take i).map endT).map mkS), MN2 n.ends[v].length, IN2_zero ⟨hE10, hz10, by simpa using hO10⟩, ?_⟩
      rintro s1 _ w11 ⟨i, rfl, hi, hE11, hz11, hO11⟩
      intros
      refine cond_dec (fun hlt2 => ?_) (fun hge2 => ?_)
      · have hi' : i < n.ends[v].length := by omega
        have hen := hf.ends _ (List.getElem_mem hv') _ (List.getElem_mem hi')
        refine (hr2.any.ext hE11).ixE hi' fun p3 _ _ hc0 hc1 => LD_int2 hc0 hc1 ?_
        refine NEW_ST (Go.GX.one2 _ _) rfl fun p8 w13 hp8 hE13 hb8 => LD_box2 hb8 ?_
        refine call (txEnd_ok (e := n.ends[v][i]) hen) ?_
        rintro _ w14 ⟨rfl, hE14⟩
        have hEw := hE13.trans hE14
        have hzw := hEw.size_le
        have hwords : (idT n v ++ inpT n v ++ (n.ends[v].take i).map endT).length ≤ 1000 := by
          have : (wordsT n v).length = (idT n v ++ inpT n v).length + n.ends[v].length := by unfold wordsT; rw [hrow, List.length_append, List.length_map]
          simp only [List.length_append, List.length_map, List.length_take] at this ⊢
          omega
        refine RUN_word (hE11.trans hEw) ⟨Nat.le_refl _, by omega⟩ (hO11.ext hEw) hwords (endT n.ends[v][i]) fun r w16 hE16 hz16 hO16 => ?_
        refine IN2_next (by omega) hi' ⟨hE16, hz16, ?_⟩
        rw [wordsT_take hi']
        exact hO16
      · have : i = n.ends[v].length := by omega
        subst this
        have hall : idT n v ++ inpT n v ++ (n.ends[v].take n.ends[v].length).map endT = wordsT n v := by unfold wordsT; rw [List.take_length, hrow]
        rw [hall] at hO11
        have hR : R w11 s1 ((wordsT n v).map mkS) := (hO11.rep (strs_ok _)).any
        rw [hR.len, List.length_map]
        refine ⟨IN2 (wordsT n v).length fun i (out : ByteArray) w' => w' = w11 ∧ out = mkS (textT n v ++ [32].intercalate ((wordsT n v).take i)), MN2 (wordsT n v).length, IN2_zero ⟨rfl, by simp [List.intercalate]⟩, ?_⟩
        rintro _ _ _ ⟨i, rfl, hi, rfl, rfl⟩
        intros
        have hbnd : ∀ k, ([32].intercalate ((wordsT n v).take k)).length ≤ 112 := fun k => by
          have := inter_len 32 (L := (wordsT n v).take k) fun x hx => hwm x (List.mem_of_mem_take hx)
          rw [List.length_take] at this
          have : min k (wordsT n v).length ≤ 8 := by omega
          have := Nat.mul_le_mul this (Nat.le_refl 14)
          omega
        refine cond_dec (fun hlt3 => ?_) (fun hge3 => ?_)
        · have hi' : i < (wordsT n v).length := by omega
          have hwi := hwm _ (List.getElem_mem hi')
          have hbi := hbnd i
          refine hR.ixStr hi' fun p5 hc5 => LD_str hc5 ?_
          rw [mk_lit [32]]
          refine cond_dec (fun hpos => ?_) (fun hzero => ?_)
          · refine ⟨by rw [mkS_size, mkS_size]; simp only [List.length_append, List.length_cons, List.length_nil]; omega, ?_⟩
            rw [mkS_app]
            refine ⟨by rw [mkS_size, mkS_size]; simp only [List.length_append, List.length_cons, List.length_nil]; omega, ?_⟩
            rw [mkS_app]
            refine IN2_next (by omega) hi' ⟨rfl, ?_⟩
            rw [List.take_succ_eq_append_getElem hi', inter_snoc 32 (by
              intro e
              have := congrArg List.length e
              rw [List.length_take, List.length_nil] at this
              omega)]
            simp
          · have h0 : i = 0 := by omega
            subst h0
            refine ⟨by rw [mkS_size, mkS_size]; simp only [List.length_append]; omega, ?_⟩
            rw [mkS_app]
            refine IN2_next (by omega) hi' ⟨rfl, ?_⟩
            rw [List.take_succ_eq_append_getElem hi', List.take_zero, List.nil_append, intercalate_cons]
            simp [List.intercalate]
        · have : i = (wordsT n v).length := by omega
          subst this
          have hb' := hbnd (wordsT n v).length
          rw [List.take_length] at hb' ⊢
          rw [mk_lit [10]]
          refine ⟨by rw [mkS_size, mkS_size]; simp only [List.length_append, List.length_cons, List.length_nil]; omega, ?_⟩
          unfold V_s_txNet_k3
          rw [mk_lit [10], mkS_app]
          refine IN2_next (by omega) hv' ⟨hE2.trans hE11, ?_⟩
          rw [textT_succ, List.append_assoc]; rfl
    -- the input
    have k4 : ∀ (s : Sl) (w6 : World), Ext w2 w6 → OwnL w6 w2.heap.size T.t_string s ((idT n v).map mkS) → V_s_txNet_k4 (IN2 n.ends.length fun v (out : ByteArray) w' => Ext w1 w' ∧ out = mkS (textT n v)) (MN2 n.ends.length) w2 p1 (mkS (textT n v)) (v : Int) r2 s w6 := by
      intro s w6 hE6 hO6
      unfold V_s_txNet_k4
      have hb6 := hb2.ext hE6
      have hvi : v < n.inputs.length := by rw [hf.inl]; exact hv'
      have hin : n.inputs.getD v 0 = n.inputs[v] := by simp [hvi]
      have hir := hf.inr _ (List.getElem_mem hvi)
      refine LD_bs2 hb6 (((h.2.2.ext hE02).ext hE6).ixI hvi fun p3 _ hc3 => LD_int hc3 ?_)
      refine cond_dec (fun hpos => ?_) (fun hneg => k5 s w6 hE6 ?_)
      · refine LD_bs2 hb6 (((h.2.2.ext hE02).ext hE6).ixI hvi fun p4 _ hc4 => LD_int hc4 ?_)
        obtain ⟨e1, l1⟩ := numsz (x := n.inputs[v]) (by omega) (by omega)
        have hc := l1Num_ok n.inputs[v].toNat (by omega) w6
        rw [e1] at hc
        refine call hc ?_
        rintro _ w7 ⟨rfl, hE7⟩
        rw [mk_lit [47]]
        refine ⟨by rw [mkS_size, mkS_size]; simp only [List.length_cons, List.length_nil]; omega, ?_⟩
        rw [mkS_app]
        have hz6 := hE6.size_le
        have hz7 := hE7.size_le
        have hidl : (idT n v).length ≤ 1000 := by unfold wordsT at hwl; simp only [List.length_append] at hwl; omega
        refine RUN_word (hE6.trans hE7) ⟨Nat.le_refl _, by omega⟩ (hO6.ext hE7) hidl _ fun r w9 hE9 hz9 hO9 => k5 r w9 hE9 ?_
        have e : inpT n v = [[47] ++ decDigits n.inputs[v].toNat] := by unfold inpT; rw [hin, if_pos (by omega)]; rfl
        rw [e]; exact hO9
      · have e : inpT n v = [] := by unfold inpT; rw [hin, if_neg (by omega)]
        rw [e, List.append_nil]; exact hO6
    refine cond_dec (fun hpos => ?_) (fun hneg => k4 _ w2 (Ext.refl _) ?_)
    · have hidl : n.ids.length = n.ends.length := by
        rcases hf.ids with h2 | h2
        · rw [h2] at hpos; simp at hpos
        · exact h2
      have hvi : v < n.ids.length := by omega
      have hgi : n.ids.getD v 0 = n.ids[v] := by simp [hvi]
      have hir := hf.idr _ (List.getElem_mem hvi)
      refine LD_bs1 hb2 ((h.2.1.ext hE02).ixI hvi fun p3 _ hc3 => LD_int hc3 ?_)
      obtain ⟨e1, l1⟩ := numsz hir.1 hir.2
      have hc := l1Num_ok n.ids[v].toNat (by omega) w2
      rw [e1] at hc
      refine call hc ?_
      rintro _ w3 ⟨rfl, hE3⟩
      refine ⟨by rw [mkS_size, mkS_size]; simp only [List.length_cons, List.length_nil]; omega, ?_⟩
      rw [mkS_app]
      have hz3 := hE3.size_le
      refine RUN_word (s := ⟨none, 0, 0⟩) (ws := []) hE3 ⟨Nat.le_refl _, hz3⟩ (OwnL.nil _ _ _) (by simp) _ fun r w5 hE5 hz5 hO5 => k4 r w5 hE5 ?_
      have e : idT n v = [[35] ++ decDigits n.ids[v].toNat] := by unfold idT; rw [hgi, if_pos (by omega)]; rfl
      rw [e]; exact hO5
    · have e : idT n v = [] := by unfold idT; rw [if_neg (by omega)]
      rw [e]; exact OwnL.nil _ _ _
  · have : v = n.ends.length := by omega
    subst this
    exact ⟨rfl, hE02⟩

/-! ### The program's -/

theorem netText_ok {w : World} (g : GP w) {x y z : Sl} {n : Net} (h : RNet w x y z n) (hf : Fine n) :
    Calls Tryd.prog F.i_networkText #[.agg #[x.v, y.v, z.v]] w (Ret [.at .str] fun (r : ByteArray) w' => r = mkS (textT n n.ends.length) ∧ Ext w w') := by
  refine C_i_networkText ?_
  unfold V_i_networkText
  refine NEW_intro fun p1 w1 hp1 hs1 hE1 hb1 => ?_
  refine NEW_intro fun p3 w2 hp3 hs3 hE2 hb3 => ?_
  have hB0 : Bld w2 w1.heap.size p3 [] := Bld.fresh hb3 (by omega)
  have hz2 := hE2.size_le
  refine LD_bs0 (hb1.ext hE2) ?_
  rw [h.1.len, mk_lit [35]]
  have hlen := hf.len
  refine ⟨IN n.ends.length fun v w' => Ext w1 w' ∧ Bld w' w1.heap.size p3 (textT n v), MN n.ends.length, IN_zero ⟨hE2, hB0⟩, ?_⟩
  rintro _ w3 ⟨v, rfl, hv, hE3, hB3⟩
  intros
  have hE03 := hE1.trans hE3
  have hb13 := hb1.ext hE3
  have hz3 := hE3.size_le
  refine cond_dec (fun hlt => ?_) (fun hge => ?_)
  · have hv' : v < n.ends.length := by omega
    have hdeg := hf.deg _ (List.getElem_mem hv')
    obtain ⟨hwl, hwm⟩ := hf.words hv'
    have hrow : n.ends.getD v [] = n.ends[v] := by simp [hv']
    have htl := hf.text (k := v) (by omega)
    have hll := hf.line hv'
    refine (h.1.ext hE03).ixL hv' fun p2 r2 hr2 hc2 => LD_sl hc2 (LD_bs1 hb13 ?_)
    rw [h.2.1.len]
    have k5 : ∀ (s : Sl) (w11 : World), Ext w3 w11 → OwnL w11 w3.heap.size T.t_string s ((idT n v ++ inpT n v).map mkS) → V_i_networkText_k5 (IN n.ends.length fun v w' => Ext w1 w' ∧ Bld w' w1.heap.size p3 (textT n v)) (MN n.ends.length) (v : Int) w3 p3 r2 s w11 := by
      intro s w11 hE11 hO11
      unfold V_i_networkText_k5
      rw [hr2.len]
      have hz11 := hE11.size_le
      refine ⟨IN2 n.ends[v].length fun i (s : Sl) w' => Ext w3 w' ∧ w3.heap.size ≤ w'.heap.size ∧ OwnL w' w3.heap.size T.t_string s ((idT n v ++ inpT n v ++ (n.ends[v].take i).map endT).map mkS), MN2 n.ends[v].length, IN2_zero ⟨hE11, hz11, by simpa using hO11⟩, ?_⟩
      rintro s1 _ w12 ⟨i, rfl, hi, hE12, hz12, hO12⟩
      intros
      refine cond_dec (fun hlt2 => ?_) (fun hge2 => ?_)
      · have hi' : i < n.ends[v].length := by omega
        have hen := hf.ends _ (List.getElem_mem hv') _ (List.getElem_mem hi')
        refine (hr2.any.ext hE12).ixE hi' fun p3' _ _ hc0 hc1 => LD_int2 hc0 hc1 ?_
        refine NEW_ST (Go.GX.one2 _ _) rfl fun p8 w14 hp8 hE14 hb8 => LD_box2 hb8 ?_
        refine call (PortText_ok ((((g.ext hE03).ext hE12)).ext hE14) (e := n.ends[v][i]) hen) ?_
        rintro _ _ w15 ⟨rfl, hE15⟩
        have hEw := hE14.trans hE15
        have hzw := hEw.size_le
        have hwords : (idT n v ++ inpT n v ++ (n.ends[v].take i).map endT).length ≤ 1000 := by
          have : (wordsT n v).length = (idT n v ++ inpT n v).length + n.ends[v].length := by unfold wordsT; rw [hrow, List.length_append, List.length_map]
          simp only [List.length_append, List.length_map, List.length_take] at this ⊢
          omega
        refine RUN_word (hE12.trans hEw) ⟨Nat.le_refl _, by omega⟩ (hO12.ext hEw) hwords (endT n.ends[v][i]) fun r w16 hE16 hz16 hO16 => ?_
        refine IN2_next (by omega) hi' ⟨hE16, hz16, ?_⟩
        rw [wordsT_take hi']
        exact hO16
      · have : i = n.ends[v].length := by omega
        subst this
        have hall : idT n v ++ inpT n v ++ (n.ends[v].take n.ends[v].length).map endT = wordsT n v := by unfold wordsT; rw [List.take_length, hrow]
        rw [hall] at hO12
        rw [mk_lit [32], mk_lit [10]]
        have hll' : ([32].intercalate (wordsT n v)).length ≤ 112 := hll
        refine call (Join_ok (sep := [32]) hO12 (by omega) (by omega)) ?_
        rintro _ w18 ⟨rfl, hE18⟩
        refine ⟨by rw [mkS_size, mkS_size]; simp only [List.length_cons, List.length_nil]; omega, ?_⟩
        rw [mkS_app]
        have hz18 := hE18.size_le
        have hE318 := hE12.trans hE18
        refine call (WriteString_ok (hB3.ext hE318) (by omega) (by simp only [List.length_append, List.length_cons, List.length_nil]; omega)) ?_
        rintro _ _ w19 ⟨hBl, hB19⟩
        unfold V_i_networkText_k3
        refine IN_next (by omega) hv' ⟨Below.trans (hE3.trans hE318) hBl, ?_⟩
        rw [textT_succ]; exact hB19
    have k4 : ∀ (s : Sl) (w7 : World), Ext w3 w7 → OwnL w7 w3.heap.size T.t_string s ((idT n v).map mkS) → V_i_networkText_k4 (IN n.ends.length fun v w' => Ext w1 w' ∧ Bld w' w1.heap.size p3 (textT n v)) (MN n.ends.length) w3 p1 p3 (v : Int) r2 s w7 := by
      intro s w7 hE7 hO7
      unfold V_i_networkText_k4
      have hb7 := hb13.ext hE7
      have hvi : v < n.inputs.length := by rw [hf.inl]; exact hv'
      have hin : n.inputs.getD v 0 = n.inputs[v] := by simp [hvi]
      have hir := hf.inr _ (List.getElem_mem hvi)
      refine LD_bs2 hb7 (((h.2.2.ext hE03).ext hE7).ixI hvi fun p4 _ hc4 => LD_int hc4 ?_)
      refine cond_ne (fun hne => ?_) (fun heq => k5 s w7 hE7 ?_)
      · refine LD_bs2 hb7 (((h.2.2.ext hE03).ext hE7).ixI hvi fun p5 _ hc5 => LD_int hc5 ?_)
        obtain ⟨e1, l1⟩ := numsz (x := n.inputs[v]) (by omega) (by omega)
        have hc := Itoa_ok (w := w7) ((g.ext hE03).ext hE7) (n := n.inputs[v].toNat) (by omega)
        rw [e1] at hc
        refine call hc ?_
        rintro _ w8 ⟨rfl, hE8⟩
        rw [mk_lit [47]]
        refine ⟨by rw [mkS_size, mkS_size]; simp only [List.length_cons, List.length_nil]; omega, ?_⟩
        rw [mkS_app]
        have hz7 := hE7.size_le
        have hz8 := hE8.size_le
        have hidl : (idT n v).length ≤ 1000 := by unfold wordsT at hwl; simp only [List.length_append] at hwl; omega
        refine RUN_word (hE7.trans hE8) ⟨Nat.le_refl _, by omega⟩ (hO7.ext hE8) hidl _ fun r w10 hE10 hz10 hO10 => k5 r w10 hE10 ?_
        have e : inpT n v = [[47] ++ decDigits n.inputs[v].toNat] := by unfold inpT; rw [hin, if_pos (by omega)]; rfl
        rw [e]; exact hO10
      · have e : inpT n v = [] := by unfold inpT; rw [hin, if_neg (by omega)]
        rw [e, List.append_nil]; exact hO7
    refine cond_dec (fun hpos => ?_) (fun hneg => k4 _ w3 (Ext.refl _) ?_)
    · have hidl : n.ids.length = n.ends.length := by
        rcases hf.ids with h2 | h2
        · rw [h2] at hpos; simp at hpos
        · exact h2
      have hvi : v < n.ids.length := by omega
      have hgi : n.ids.getD v 0 = n.ids[v] := by simp [hvi]
      have hir := hf.idr _ (List.getElem_mem hvi)
      refine LD_bs1 hb13 ((h.2.1.ext hE03).ixI hvi fun p4 _ hc4 => LD_int hc4 ?_)
      obtain ⟨e1, l1⟩ := numsz hir.1 hir.2
      have hc := Itoa_ok (w := w3) (g.ext hE03) (n := n.ids[v].toNat) (by omega)
      rw [e1] at hc
      refine call hc ?_
      rintro _ w4 ⟨rfl, hE4⟩
      refine ⟨by rw [mkS_size, mkS_size]; simp only [List.length_cons, List.length_nil]; omega, ?_⟩
      rw [mkS_app]
      have hz4 := hE4.size_le
      refine RUN_word (s := ⟨none, 0, 0⟩) (ws := []) hE4 ⟨Nat.le_refl _, hz4⟩ (OwnL.nil _ _ _) (by simp) _ fun r w6 hE6 hz6 hO6 => k4 r w6 hE6 ?_
      have e : idT n v = [[35] ++ decDigits n.ids[v].toNat] := by unfold idT; rw [hgi, if_pos (by omega)]; rfl
      rw [e]; exact hO6
    · have e : idT n v = [] := by unfold idT; rw [if_neg (by omega)]
      rw [e]; exact OwnL.nil _ _ _
  · have : v = n.ends.length := by omega
    subst this
    refine call (BString_ok hB3 (by omega)) ?_
    rintro _ w21 ⟨rfl, hBl⟩
    exact ⟨rfl, hE1.trans (Below.trans hE3 hBl)⟩

/-! ### TidyText -/

inductive TidyAns (l : List UInt8) : ByteArray → Bool → Prop
  | no {n : Net} {a c : Int} : NetAns l n a c → c ≠ 0 → TidyAns l (mkS []) false
  | yes {n : Net} {a c : Int} : NetAns l n a c → c = 0 → TidyAns l (mkS (textT n n.ends.length)) true
theorem TidyAns.unique {l : List UInt8} {r s : ByteArray} {a b : Bool} (h : TidyAns l r a) (h' : TidyAns l s b) : r = s ∧ a = b := by
  cases h with
  | no h1 h2 => cases h' with
    | no _ _ => exact ⟨rfl, rfl⟩
    | yes g1 g2 => obtain ⟨_, _, rfl⟩ := h1.unique g1; exact absurd g2 h2
  | yes h1 h2 => cases h' with
    | no g1 g2 => obtain ⟨_, _, rfl⟩ := h1.unique g1; exact absurd h2 g2
    | yes g1 g2 => obtain ⟨rfl, _, _⟩ := h1.unique g1; exact ⟨rfl, rfl⟩

theorem sTidyText_ok {w : World} {l : List UInt8} (hl : l.length ≤ 1048576) :
    Calls Tryd.prog F.s_TidyText #[.string (mkS l)] w (Ret [.at .str, .at .bool] fun (r : ByteArray) (ok : Bool) w' => TidyAns l r ok ∧ Ext w w') := by
  refine C_s_TidyText ?_
  unfold V_s_TidyText
  refine call (sParseNetwork_ok hl) ?_
  rintro x y z a c w1 ⟨hE1, n, hA, hR⟩
  refine NEW_ST (one3 _ _ _) rfl fun p w3 hp hE3 hb3 => ?_
  have hE03 := hE1.trans hE3
  refine cond_ne (fun hne => ⟨.no hA hne, hE03⟩) (fun heq => LD_box3 hb3 ?_)
  obtain ⟨rs, b, hrs, _, hok, hr⟩ := hA.of heq
  refine call (sNetText_ok (hR.ext hE3) (by rw [hrs]; exact netR_fine hok hr)) ?_
  rintro _ w4 ⟨rfl, hE4⟩
  exact ⟨.yes hA heq, hE03.trans hE4⟩

theorem iTidyText_ok {w : World} (g : GV w) {l : List UInt8} (hl : l.length ≤ 1048576) :
    Calls Tryd.prog F.i_TidyText #[.string (mkS l)] w (Ret [.at .str, .at .bool] fun (r : ByteArray) (ok : Bool) w' => TidyAns l r ok ∧ Ext w w') := by
  refine C_i_TidyText ?_
  unfold V_i_TidyText
  refine call (ParseNetwork_ok g hl) ?_
  rintro x y z a c w1 ⟨hE1, n, base, hA, _, hO⟩
  refine NEW_ST (one3 _ _ _) rfl fun p w3 hp hE3 hb3 => ?_
  have hE03 := hE1.trans hE3
  refine cond_ne (fun hne => ⟨.no hA hne, hE03⟩) (fun heq => LD_box3 hb3 ?_)
  obtain ⟨rs, b, hrs, _, hok, hr⟩ := hA.of heq
  refine call (netText_ok (g.pow.ext hE03) (hO.net.ext hE3) (by rw [hrs]; exact netR_fine hok hr)) ?_
  rintro _ w4 ⟨rfl, hE4⟩
  exact ⟨.yes hA heq, hE03.trans hE4⟩

end Go.Proofs.YtcldmpllpfojhaaDoor
end

section
/- The walk of the law FnExactTidyText. -/
namespace Go.Proofs.YtcldmpllpfojhaaDoor
open Go.GX Go.RowKit
set_option maxRecDepth 100000

theorem fnExactTidyText_ok {w : World} (g : GV w) (l : List UInt8) :
    Calls Tryd.prog F.l_FnExactTidyText #[.string (mkS l)] w (Ret [.at .bool] fun (x : Bool) w' => x = true ∧ Ext w w') := by
  refine C_l_FnExactTidyText ?_
  unfold V_l_FnExactTidyText
  rw [mkS_size]
  refine cond_dec (fun _ => ⟨rfl, Ext.refl _⟩) (fun hl0 => ?_)
  have hl : l.length ≤ 1048576 := by omega
  refine call (sTidyText_ok hl) ?_
  rintro r a w1 ⟨hA, hE1⟩
  refine call (iTidyText_ok (g.ext hE1) hl) ?_
  rintro s b w2 ⟨hB, hE2⟩
  obtain ⟨rfl, rfl⟩ := hA.unique hB
  refine cond_f (by simp) ?_
  refine cond_f (by simp) ?_
  exact ⟨rfl, hE1.trans hE2⟩

end Go.Proofs.YtcldmpllpfojhaaDoor
end

section
/- Arguments that come in, read as data: from the statements' own reading of memory to the rules' reading. No program is named here. -/
namespace Go.GX
open Go.RowKit Go.WideShapes Go.ChangeShapes Go.ChangeAt Go.Deep

/-- Whatever the statements read at type t is data of α in memory. -/
def Reads (P : Program) (t : TypeId) (α : Type) [Rep α] : Prop :=
  ∀ {H : Type} {enc : TypeId × Value → H} {w : World} {base : Nat} {spare : Nat → Bool} {held : Bool} {fuel : Nat} {cs : List Value} {x : DataW H × List MemPlace},
    DataW.trod enc P w base spare held fuel t cs = some x → ∃ a : α, Rep.rep (fun _ => True) w cs a

theorem Reads.int {P : Program} {t : TypeId} (ht : P.underlying t = some (.int .i64)) : Reads P t Int := fun h => by
  obtain ⟨n, rfl, _, hn⟩ := DataW.trod_int ht h
  exact ⟨n, rfl, bounds_i64 hn⟩

theorem Reads.slice {P : Program} {t e : TypeId} {α : Type} [RepP α] (ht : P.underlying t = some (.slice e)) (hc : P.cellsOf e = Rep.sz α) (he : Reads P e α) : Reads P t (List α) := by
  intro H enc w base spare held fuel cs x h
  rcases open_slice ht h with ⟨rfl, _⟩ | ⟨a, len, cap, m, n, D, Pl, rfl, hb, hl, hm, hmm, _, hx⟩
  · exact ⟨[], ⟨none, 0, 0⟩, rfl, rfl, ⟨Nat.le_refl _, Nat.zero_le _⟩, fun i x hx => by simp at hx⟩
  · have hlm : len ≤ m := by rw [hmm]; split <;> omega
    have hall : ∀ i : Fin len, ∃ z : α, ∃ cs', Rep.rep (fun _ => True) w cs' z ∧ ∀ j v, cs'[j]? = some v → w.cell? (a.add (i.1 * Rep.sz α + j)) = some v := fun i => by
      obtain ⟨cs', h1, h2⟩ := hx i.1 (by omega)
      obtain ⟨z, hz⟩ := he h2
      refine ⟨z, cs', hz, fun j v hj => ?_⟩
      obtain ⟨_, hlen, hcell⟩ := World.cells?_some h1
      have hj' : j < cs'.length := (List.getElem?_eq_some_iff.1 hj).1
      have := hcell j (by omega)
      rw [hj, add_add, hc] at this
      exact this
    refine ⟨List.ofFn fun i => (hall i).choose, ⟨some a, len, cap⟩, rfl, by simp, ⟨hl, by simpa [maxLen] using hm⟩, fun i x hx => ?_⟩
    rw [List.getElem?_ofFn] at hx
    split at hx
    · rename_i hi
      simp at hx
      subst hx
      obtain ⟨cs', h1, h2⟩ := (hall ⟨i, hi⟩).choose_spec
      exact ⟨a, cs', rfl, trivial, h1, h2⟩
    · cases hx

/-- Arguments read again behind a call that wrote nothing of theirs. -/
theorem trodAll_stays {P : Program} (hl : laidOutB P = true) {H : Type} {enc : TypeId × Value → H} {W W' : World} (hb : Below W.heap.size W W') : ∀ (ts : List TypeId) (vs : List Value) (ds : List (DataW H)) (p : List MemPlace),
    (ts.all fun t => P.readableRec t && decide (t < P.types.size)) = true → DataW.TrodAll enc P W 0 (fun _ => true) true ts vs ds p → DataW.TrodAll enc P W' 0 (fun b => decide (b < W.heap.size)) true ts vs ds p
  | [], vs, ds, p, _, h => by
    obtain ⟨rfl, rfl, rfl⟩ := trodAll_nil h
    exact trodAll_mk0
  | t :: ts, vs, ds, p, ha, h => by
    simp only [List.all_cons, Bool.and_eq_true, decide_eq_true_eq] at ha
    obtain ⟨v, vs', d, ds', p', q', rfl, rfl, rfl, h1, h2⟩ := trodAll_cons h
    refine trodAll_cons_mk (Below.trod hl ha.1.1 ha.1.2 h1 hb ?_) (trodAll_stays hl hb ts vs' ds' q' ha.2 h2)
    obtain ⟨m, hm⟩ := h1
    exact DataW.trod_lt m _ _ _ hm

end Go.GX
end

section
/- The laws' arguments read as data: the types of this program. -/
namespace Go.Proofs.YtcldmpllpfojhaaDoor
open Go.GX Go.RowKit
set_option maxRecDepth 100000

theorem laidOut : laidOutB Tryd.prog = true := by kernel_rfl

variable {H : Type} {enc : TypeId × Value → H} {w : World} {base b0 : Nat} {spare : Nat → Bool} {held : Bool} {r : Go.Reach} {v : Value} {d : DataW H} {p : List MemPlace}

end Go.Proofs.YtcldmpllpfojhaaDoor
end

section
/- Facts of this seat's program that every claim's last step asks for, each computed once (together they need more memory than a text may use). -/
namespace Go.Proofs.YtcldmpllpfojhaaDoor


theorem door_enters : Tryd.pinned.checked.prog.mayEnter = true := by kernel_rfl

theorem door_lifts : Tryd.pinned.checked.prog.liftsFinal = false := by kernel_rfl

theorem door_heard : Tryd.pinned.checked.prog.stopsHeard = true := by kernel_rfl

theorem door_laid : laidOutB Tryd.pinned.checked.prog = true := by kernel_rfl

theorem door_maps : mapsRowed Tryd.pinned.checked.prog = true := by kernel_rfl

end Go.Proofs.YtcldmpllpfojhaaDoor
end

section
/- The frame of a card: a contract at a world that has its shape and the listed variables. No program is named here. -/
namespace Go
open Go.ChangeShapes
variable {H : Type} {enc : TypeId × Value → H}

theorem handed_tied {a : Assume} {C : Checked} {os : Os} {f : FuncId} {fn : Func} {s : ChangeSpec} {conds : List PathCond} {apart fresh handsOn again : Bool} {X : World → Array Value → Prop}
    (hX : ∀ (w w' : World) (args : Array Value), w.heap = w'.heap → X w args → X w' args)
    (own : ownKnob C.prog.godebug = none) (started : os.Started) (noInit : C.prog.inits.idxOf? f = none) (hfn : C.prog.funcs[f]? = some fn)
    (witness : ∃ (w : World) (tape : Tape) (i : Input), w.os = os ∧ (w.forCall tape i).Shaped C.prog ∧ i.vars = [] ∧ Input.okWide C.prog (w.forCall tape i) .any w.heap.size f i ∧
      ((s.pre enc C.prog fn conds apart (w.forCall tape i).memory i.args ∧ X (w.forCall tape i).memory i.args) ∧ sizedMet enc C.prog fn (OpenSpec.ofChange s) apart (w.forCall tape i).memory i.args) ∧ a.holds C.prog (lone (Frame.enter C.prog f i.args .normal) [] (w.forCall tape i)))
    (contract : ∀ (W : World) (base : Nat) (args : Array Value) (ds gs : List (DataW H)) (before : List MemPlace),
      (∀ (j : Nat) t v, fn.params[j]? = some t → args[j]? = some v → Value.okWide C.prog W .any base t v) →
      DataW.Whole enc C.prog fn.params.toList s.vars apart W args.toList ds gs before →
      conds.all (PathCond.test C.prog ⟨fn.params.toList, ds, s.plain.varTypes C.prog, gs⟩) = true →
      (DataW.weightsEach C.prog (fn.params.toList ++ s.plain.varTypes C.prog) (ds ++ gs)).all (· ≤ reachBytes) = true → X W args → W.ShapedOpen C.prog →
      a.holds C.prog (lone (Frame.enter C.prog f args .normal) [] W) →
      Calls C.prog f args W fun e W' => ∃ v, e = .returned v ∧ s.post enc C.prog fn apart fresh handsOn again W args v W') :
    ReturnsInHanded a C os f .any (fun w args => (s.pre enc C.prog fn conds apart w args ∧ X w args) ∧ sizedMet enc C.prog fn (OpenSpec.ofChange s) apart w args) (s.post enc C.prog fn apart fresh handsOn again) := by
  refine returnsInHanded_of_calls own started noInit witness ?_
  intro w tape i _ hsh _ hok hpre hholds
  obtain ⟨_, _, _, fn', hfn', _, _, _, _, hval⟩ := hok
  have e : fn' = fn := Option.some.inj (hfn'.symm.trans hfn)
  subst e
  obtain ⟨⟨⟨ds, gs, before, hw, hc⟩, hx⟩, hz⟩ := hpre
  have hw' := DataW.Whole.of_heap (w' := w.forCall tape i) (by rfl) hw
  refine (contract (w.forCall tape i) w.heap.size i.args ds gs before hval hw' hc (hz.weights hw) (hX _ _ _ (by rfl) hx) hsh hholds).mono fun e W' ⟨v, he, hp⟩ => ?_
  subst he
  exact ChangeSpec.post_blind hp

theorem laidMet_tail {P : Program} {x : String × DataW Unit} {rest : List (String × DataW Unit)} {w : World} (h : laidMet P (x :: rest) w) : laidMet P rest w := by
  obtain ⟨ps, ⟨g, t, cs, f, p, q, _, _, _, _, hr, rfl⟩, hn, ha⟩ := h
  exact ⟨q, hr, (List.nodup_append.1 hn).2.1, fun b off hb => ha b off (List.mem_append.2 (.inr hb))⟩

/-- Is a variable a table of numbers of one kind? -/
def tabOkB (P : Program) (name : String) (k : IntKind) (n : Nat) : Bool :=
  match P.globalNamed name with
  | some g => match (P.globals[g]?).map (·.type) with
    | some t => match P.underlying t with
      | some (.array m e) => Nat.beq m n && (match P.underlying e with | some (.int k') => decide (k' = k) | _ => false) && Nat.beq (P.cellsOf e) 1 && Nat.beq (P.cellsOf t) n
      | _ => false
    | none => false
  | none => false

theorem tabIs_of_laid {P : Program} {W : World} {name : String} {k : IntKind} {zs : List Int} {n : Nat} {d : DataW Unit} {rest : List (String × DataW Unit)} (hb : tabOkB P name k n = true) (hd : d = Lib.tabData k zs)
    (h : laidMet P ((name, d) :: rest) W) : Lib.TabIs P W name k zs := by
  subst hd
  unfold tabOkB at hb
  split at hb
  · rename_i g hg
    split at hb
    · rename_i t ht
      split at hb
      · rename_i m e hu
        simp only [Bool.and_eq_true] at hb
        obtain ⟨⟨⟨h1, h2⟩, h3⟩, h4⟩ := hb
        have e1 := Nat.eq_of_beq_eq_true h1
        have e3 := Nat.eq_of_beq_eq_true h3
        have e4 := Nat.eq_of_beq_eq_true h4
        subst e1
        split at h2
        · rename_i k' hk
          have := of_decide_eq_true h2
          subst this
          exact Lib.tabIs_of_head hg ht hu hk e3 e4 h
        · cases h2
      · cases hb
    · cases hb
  · cases hb

def ifaceOkB (P : Program) (name : String) (g : Nat) : Bool :=
  match P.globalNamed name with
  | some g' => Nat.beq g' g && (match (P.globals[g']?).map (·.type) with
    | some t => match P.underlying t with
      | some (.interface _) => true
      | _ => false
    | none => false)
  | none => false

theorem iface_of_laid {P : Program} {W : World} {name nm : String} {d : DataW Unit} {g : Nat} {rest : List (String × DataW Unit)} (hb : ifaceOkB P name g = true) (h : laidMet P ((name, .iface nm d) :: rest) W) :
    ∃ u v, W.cell? ⟨g, 0, none⟩ = some (.iface u v) := by
  unfold ifaceOkB at hb
  split at hb
  · rename_i g' hg
    simp only [Bool.and_eq_true] at hb
    obtain ⟨h1, h2⟩ := hb
    have e1 := Nat.eq_of_beq_eq_true h1
    subst e1
    split at h2
    · rename_i t ht
      split at h2
      · rename_i ms hu
        obtain ⟨ps, ⟨g0, t0, cs0, f0, p0, q0, hg0, ht0, hv0, hd0, _, e0⟩, _, hrows⟩ := h
        obtain rfl := Option.some.inj (hg.symm.trans hg0)
        obtain rfl := Option.some.inj (ht.symm.trans ht0)
        obtain ⟨_, u, v, hcs, _, _⟩ := iface_of_trod hu hd0
        refine ⟨u, v, ?_⟩
        have := World.var?_cell hg0 hv0 0
        rw [this]
        obtain ⟨l⟩ := cs0
        simp only at hcs
        subst hcs
        rfl
      · cases h2
    · cases h2
  · cases hb

end Go
end
