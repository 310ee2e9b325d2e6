/- Own texts, merged: PnPure, TdyPure, Write, Mark, RowsD, Mat, PnMem, PnOps, Txt, Sort, Coll, Copy, Lib, TxtRead, PnS1, TxtL, TxtLib, TxtLine. -/
import Derived.Test.YtcldmpllpfojhaaDoorM2
import Derived.Lib.Strings
import Derived.Laws.Strings
import Derived.Laws.Strings2
import Derived.Laws.Slices
import Derived.Laws.BytesString
import Derived.Laws.IdiomStrings
import Derived.Sort.OwnSortedInts
import Derived.Laws.IdiomCopy
import Derived.Shelf.Strings.Builder1
import Derived.Shelf.Strings.Builder2
import Derived.Shelf.Strings.OnBuilder
import Derived.Shelf.Small.Strs
import Derived.Shelf.Small.Wraps
import Derived.Shelf.Strings.BuilderF
import Derived.Shelf.Strings.BuilderK
import Derived.Shelf.Strconv.Atoi
import Derived.Shelf.Strconv.Itoa0
import Derived.Shelf.Strconv.Itoa1
import Derived.Shelf.LaysM
import Derived.Shelf.Strconv.Itoa2
import Derived.Shelf.Strconv.Itoa3
import Derived.Shelf.Strconv.AtoiErrFast
import Derived.Shelf.Strconv.ParseIntEmpty
import Derived.Shelf.Strconv.AtoiFail
import Derived.Shelf.Strconv.Clone
import Derived.Shelf.Strconv.SyntaxError
import Derived.Shelf.LaysC
import Derived.Shelf.Strconv.ToError
import Derived.Shelf.Strconv.AtoiErr
import Derived.Shelf.Strconv.ErrVar
import Derived.Shelf.Strings.Search1
import Derived.Shelf.Strings.Search2
import Derived.Shelf.Strings.Cut
import Derived.Shelf.Strings.Shaped
import Derived.Shelf.Strings.Prefix
import Derived.Test.YtcldmpllpfojhaaDoorProg
import Derived.Lib.AtoiErrMem
import Derived.Lib.SplitLaws
import Derived.Sort.Grow
import Derived.Deep.Draws
import Derived.Laws.Entries
set_option linter.unusedVariables false
section
/- Texts of networks as lists of bytes: lines, words, ports, rows; what reading answers. No program is named here. -/
namespace Go.Proofs.YtcldmpllpfojhaaDoor
open Go.GX Go.RowKit
open Go.Lib (decDigits index)
set_option maxRecDepth 100000

/-! ### Pieces of a text -/

def seg (l : List UInt8) (a b : Nat) : List UInt8 := (l.drop a).take (b - a)
/-- Where a piece that begins at a place ends: at the next such byte, or at the end. -/
def endG (c : UInt8) (l : List UInt8) (a : Nat) : Nat := a + ((l.drop a).takeWhile fun b => decide (b ≠ c)).length
theorem takeWhile_all {c : UInt8} : ∀ {l : List UInt8}, c ∉ l → l.takeWhile (fun b => decide (b ≠ c)) = l
  | [], _ => rfl
  | b :: l, h => by
    have h1 : b ≠ c := fun e => h (by simp [e])
    rw [List.takeWhile_cons, if_pos (by simpa using h1), takeWhile_all fun h2 => h (by simp [h2])]
theorem takeWhile_app {c : UInt8} {y : List UInt8} : ∀ {x : List UInt8}, c ∉ x → (x ++ c :: y).takeWhile (fun b => decide (b ≠ c)) = x
  | [], _ => by rw [List.nil_append, List.takeWhile_cons, if_neg (by simp)]
  | b :: x, h => by
    have h1 : b ≠ c := fun e => h (by simp [e])
    rw [List.cons_append, List.takeWhile_cons, if_pos (by simpa using h1), takeWhile_app fun h2 => h (by simp [h2])]
/-- The two cases of a search for the byte. -/
theorem endG_index (c : UInt8) (l : List UInt8) (a : Nat) (ha : a ≤ l.length) : (index (l.drop a) [c] = -1 ∧ endG c l a = l.length ∧ c ∉ l.drop a) ∨ ∃ k : Nat, index (l.drop a) [c] = k ∧ endG c l a = a + k ∧ a + k < l.length ∧ l[a + k]? = some c := by
  rcases index_one c (l.drop a) with ⟨h1, h2⟩ | ⟨x, y, h1, h2, h3⟩
  · refine .inl ⟨h2, ?_, h1⟩
    unfold endG
    rw [takeWhile_all h1, List.length_drop]; omega
  · refine .inr ⟨x.length, h3, ?_, ?_, ?_⟩
    · unfold endG
      rw [h1, takeWhile_app h2]
    · have := congrArg List.length h1
      rw [List.length_drop, List.length_append, List.length_cons] at this
      omega
    · have e : (l.drop a)[x.length]? = some c := by rw [h1, List.getElem?_append_right (Nat.le_refl _), Nat.sub_self]; rfl
      rw [List.getElem?_drop] at e
      exact e
theorem endG_le {c : UInt8} {l : List UInt8} {a : Nat} (ha : a ≤ l.length) : a ≤ endG c l a ∧ endG c l a ≤ l.length := by
  rcases endG_index c l a ha with ⟨_, h, _⟩ | ⟨k, _, h, h2, _⟩ <;> omega
theorem endG_gt {c : UInt8} {l : List UInt8} {a : Nat} (ha : a < l.length) (hc : l[a] ≠ c) : a < endG c l a := by
  unfold endG
  rw [List.drop_eq_getElem_cons ha, List.takeWhile_cons, if_pos (by simpa using hc), List.length_cons]
  omega
theorem endG_stop {c : UInt8} {l : List UInt8} {a : Nat} (h : a = l.length ∨ l[a]? = some c) : endG c l a = a := by
  unfold endG
  rcases h with h | h
  · rw [List.drop_eq_nil_of_le (by omega)]; rfl
  · have ha : a < l.length := by
      rcases Nat.lt_or_ge a l.length with h1 | h1
      · exact h1
      · rw [List.getElem?_eq_none h1] at h; cases h
    rw [List.drop_eq_getElem_cons ha, List.takeWhile_cons, if_neg (by rw [List.getElem?_eq_getElem ha] at h; simpa using h)]; rfl
theorem endG_step {c : UInt8} {l : List UInt8} {a : Nat} (ha : a < l.length) (hc : l[a] ≠ c) : endG c l a = endG c l (a + 1) := by
  unfold endG
  rw [List.drop_eq_getElem_cons ha, List.takeWhile_cons, if_pos (by simpa using hc), List.length_cons]
  omega
theorem seg_len {l : List UInt8} {a b : Nat} (hb : b ≤ l.length) : (seg l a b).length = b - a := by
  unfold seg
  rw [List.length_take, List.length_drop]; omega
/-- The words of a line from some place on, with their places in the text. -/
def wordsG (l : List UInt8) (base i : Nat) : List (List UInt8 × Nat) :=
  if h : i < l.length then
    if h2 : l[i] = 32 then wordsG l base (i + 1) else (seg l i (endG 32 l i), base + i) :: wordsG l base (endG 32 l i)
  else []
termination_by l.length - i
decreasing_by
  · omega
  · have := endG_gt h h2; omega
theorem wordsG_end {l : List UInt8} {base i : Nat} (h : ¬ i < l.length) : wordsG l base i = [] := by rw [wordsG, dif_neg h]
theorem wordsG_skip {l : List UInt8} {base i : Nat} (h : i < l.length) (h2 : l[i] = 32) : wordsG l base i = wordsG l base (i + 1) := by rw [wordsG, dif_pos h, dif_pos h2]
theorem wordsG_word {l : List UInt8} {base i : Nat} (h : i < l.length) (h2 : l[i] ≠ 32) : wordsG l base i = (seg l i (endG 32 l i), base + i) :: wordsG l base (endG 32 l i) := by rw [wordsG, dif_pos h, dif_neg h2]
/-- The lines of a text from some place on. -/
def linesG (l : List UInt8) (i : Nat) : List (List UInt8 × Nat) :=
  if h : i < l.length then (seg l i (endG 10 l i), i) :: linesG l (endG 10 l i + 1) else []
termination_by l.length - i
decreasing_by have := (endG_le (c := 10) (show i ≤ l.length by omega)).1; omega
theorem linesG_end {l : List UInt8} {i : Nat} (h : ¬ i < l.length) : linesG l i = [] := by rw [linesG, dif_neg h]
theorem linesG_line {l : List UInt8} {i : Nat} (h : i < l.length) : linesG l i = (seg l i (endG 10 l i), i) :: linesG l (endG 10 l i + 1) := by rw [linesG, dif_pos h]
theorem wordsG_len {l : List UInt8} {base : Nat} : ∀ n i, l.length - i = n → (wordsG l base i).length ≤ l.length - i := by
  intro n
  induction n using Nat.strongRecOn with
  | ind n ih =>
    intro i hi
    by_cases h : i < l.length
    · by_cases h2 : l[i] = 32
      · rw [wordsG_skip h h2]
        have := ih (l.length - (i + 1)) (by omega) (i + 1) rfl
        omega
      · rw [wordsG_word h h2, List.length_cons]
        have h3 := endG_gt h h2
        have := ih (l.length - endG 32 l i) (by omega) _ rfl
        omega
    · rw [wordsG_end h]; simp
theorem linesG_len {l : List UInt8} : ∀ n i, l.length - i = n → (linesG l i).length ≤ l.length - i := by
  intro n
  induction n using Nat.strongRecOn with
  | ind n ih =>
    intro i hi
    by_cases h : i < l.length
    · rw [linesG_line h, List.length_cons]
      have h3 := (endG_le (c := 10) (show i ≤ l.length by omega)).1
      have := ih (l.length - (endG 10 l i + 1)) (by omega) _ rfl
      omega
    · rw [linesG_end h]; simp
theorem linesG_mem {l : List UInt8} {x : List UInt8 × Nat} : ∀ n i, l.length - i = n → x ∈ linesG l i → x.1.length ≤ l.length ∧ x.2 ≤ l.length := by
  intro n
  induction n using Nat.strongRecOn with
  | ind n ih =>
    intro i hi hx
    by_cases h : i < l.length
    · rw [linesG_line h] at hx
      have h3 := endG_le (c := 10) (show i ≤ l.length by omega)
      rcases List.mem_cons.1 hx with rfl | hx
      · exact ⟨by simp only []; rw [seg_len h3.2]; omega, by simp only []; omega⟩
      · exact ih (l.length - (endG 10 l i + 1)) (by omega) _ rfl hx
    · rw [linesG_end h] at hx; cases hx
theorem wordsG_mem {l : List UInt8} {base : Nat} {x : List UInt8 × Nat} : ∀ n i, l.length - i = n → x ∈ wordsG l base i → x.1.length ≤ l.length ∧ 0 < x.1.length ∧ x.2 ≤ base + l.length := by
  intro n
  induction n using Nat.strongRecOn with
  | ind n ih =>
    intro i hi hx
    by_cases h : i < l.length
    · by_cases h2 : l[i] = 32
      · rw [wordsG_skip h h2] at hx
        exact ih (l.length - (i + 1)) (by omega) (i + 1) rfl hx
      · rw [wordsG_word h h2] at hx
        have h3 := endG_gt h h2
        have h4 := endG_le (c := 32) (show i ≤ l.length by omega)
        rcases List.mem_cons.1 hx with rfl | hx
        · refine ⟨?_, ?_, by simp only []; omega⟩
          · simp only []; rw [seg_len h4.2]; omega
          · simp only []; rw [seg_len h4.2]; omega
        · exact ih (l.length - endG 32 l i) (by omega) _ rfl hx
    · rw [wordsG_end h] at hx; cases hx

/-! ### Words -/

/-- The number of at most six digits, if a text spells one. -/
def numD (l : List UInt8) : Option Nat := match Go.Lib.decFrom 0 l with
  | some n => if n < 1000000 ∧ decDigits n = l then some n else none
  | none => none
theorem numD_iff {l : List UInt8} {n : Nat} : numD l = some n ↔ NumOf l n := by
  unfold numD
  constructor
  · intro h
    split at h
    · rename_i m hm
      split at h
      · rename_i hc
        obtain rfl := Option.some.inj h
        exact ⟨m, hc.1, hc.2, rfl⟩
      · cases h
    · cases h
  · rintro ⟨m, h1, h2, h3⟩
    have : m = n := by omega
    subst this
    rw [← h2, decFrom_digits]
    simp [h1]
theorem numD_none {l : List UInt8} : numD l = none ↔ ∀ x, ¬ NumOf l x := by
  constructor
  · intro h x hx
    obtain ⟨n, h1, h2, rfl⟩ := hx
    have := numD_iff.2 ⟨n, h1, h2, rfl⟩
    rw [h] at this; cases this
  · intro h
    cases hn : numD l with
    | none => rfl
    | some n => exact absurd (numD_iff.1 hn) (h _)
/-- The number behind a mark, in a range. -/
def markD (c : UInt8) (lo hi : Nat) (w : List UInt8) : Option Nat := match w with
  | [] => none
  | b :: t => if b = c then (match numD t with | some n => if lo ≤ n ∧ n ≤ hi then some n else none | none => none) else none
theorem markD_some {c : UInt8} {lo hi n : Nat} {w : List UInt8} : markD c lo hi w = some n ↔ ∃ t, w = c :: t ∧ NumOf t n ∧ lo ≤ n ∧ n ≤ hi := by
  unfold markD
  constructor
  · intro h
    split at h
    · cases h
    · rename_i b t
      split at h
      · rename_i hb
        subst hb
        split at h
        · rename_i m hm
          split at h
          · rename_i hr
            obtain rfl := Option.some.inj h
            exact ⟨t, rfl, numD_iff.1 hm, hr⟩
          · cases h
        · cases h
      · cases h
  · rintro ⟨t, rfl, h1, h2⟩
    simp only [if_true, numD_iff.2 h1, h2, and_self]
/-- The end that a word spells. -/
def portD (w : List UInt8) : Option (Int × Int) := match splitB 46 w with
  | [x, y] => (match numD x, numD y with | some a, some b => some ((a : Int), (b : Int)) | _, _ => none)
  | _ => none
theorem num_no46 {l : List UInt8} {x : Int} (h : NumOf l x) : (46 : UInt8) ∉ l := by
  obtain ⟨n, _, rfl, _⟩ := h
  intro h1
  have := decDigits_mem n 46 h1
  have e : (46 : UInt8).toNat = 46 := rfl
  omega
theorem portD_some {w : List UInt8} {e : Int × Int} : portD w = some e ↔ ∃ x y, w = x ++ 46 :: y ∧ NumOf x e.1 ∧ NumOf y e.2 := by
  constructor
  · intro h
    unfold portD at h
    split at h
    · rename_i x y hs
      split at h
      · rename_i a b ha hb
        obtain rfl := Option.some.inj h
        have hj := splitB_join hs
        refine ⟨x, y, by rw [hj]; simp, numD_iff.1 ha, numD_iff.1 hb⟩
      · cases h
    · cases h
  · rintro ⟨x, y, rfl, h1, h2⟩
    have hs : splitB 46 (x ++ 46 :: y) = [x, y] := by rw [splitB_app (num_no46 h1), splitB_none (num_no46 h2)]
    obtain ⟨a, ha1, ha2, ha3⟩ := h1
    obtain ⟨b, hb1, hb2, hb3⟩ := h2
    unfold portD
    rw [hs]
    simp only [numD_iff.2 ⟨a, ha1, ha2, rfl⟩, numD_iff.2 ⟨b, hb1, hb2, rfl⟩]
    rw [← ha3, ← hb3]
theorem portD_range {w : List UInt8} {e : Int × Int} (h : portD w = some e) : 0 ≤ e.1 ∧ e.1 < 1000000 ∧ 0 ≤ e.2 ∧ e.2 < 1000000 := by
  obtain ⟨x, y, _, h1, h2⟩ := portD_some.1 h
  have := h1.range
  have := h2.range
  omega

/-! ### Rows -/

abbrev Wd := List UInt8 × Nat
/-- What a line gives: ends, identifier, input, the place of the identifier, the places of the ports, the place of the line. -/
structure PR where
  ends : List (Int × Int)
  id : Int
  inp : Int
  fst : Int
  ports : List Int
  lat : Int
def portsD : List Wd → List (Int × Int) → List Int → Except (Int × Int) (List (Int × Int) × List Int)
  | [], E, P => .ok (E, P)
  | (w, a) :: t, E, P => match portD w with
    | none => .error ((a : Int), 2)
    | some e => if E.length = 6 then .error ((a : Int), 3) else portsD t (E ++ [e]) (P ++ [(a : Int)])
def idD (ws : List Wd) : Int × Int × List Wd := match ws with
  | [] => (0, 0, [])
  | (w, a) :: t => match markD 35 1 999999 w with
    | some n => ((n : Int), (a : Int), t)
    | none => (0, 0, (w, a) :: t)
def inpD (ws : List Wd) : Int × List Wd := match ws with
  | [] => (0, [])
  | (w, a) :: t => match markD 47 0 9 w with
    | some n => ((n : Int), t)
    | none => (0, (w, a) :: t)
def mkPR (at' : Nat) (id fst inp : Int) : Except (Int × Int) (List (Int × Int) × List Int) → Except (Int × Int) PR
  | .error f => .error f
  | .ok x => .ok ⟨x.1, id, inp, fst, x.2, (at' : Int)⟩
def rowQ (ws : List Wd) (at' : Nat) : Except (Int × Int) PR :=
  mkPR at' (idD ws).1 (idD ws).2.1 (inpD (idD ws).2.2).1 (portsD (inpD (idD ws).2.2).2 [] [])
def rowsP : List Wd → List PR → Except (Int × Int) (List PR)
  | [], rs => .ok rs
  | (t, a) :: L, rs => if rs.length = 40 then .error ((a : Int), 3) else match rowQ (wordsG t a 0) a with
    | .error f => .error f
    | .ok r => rowsP L (rs ++ [r])

theorem portsD_ok : ∀ {ws : List Wd} {E : List (Int × Int)} {P : List Int} {x}, portsD ws E P = .ok x → E.length = P.length → E.length ≤ 6 → (∀ e ∈ E, 0 ≤ e.1 ∧ e.1 < 1000000 ∧ 0 ≤ e.2 ∧ e.2 < 1000000) →
    x.1.length = x.2.length ∧ x.1.length ≤ 6 ∧ ∀ e ∈ x.1, 0 ≤ e.1 ∧ e.1 < 1000000 ∧ 0 ≤ e.2 ∧ e.2 < 1000000
  | [], E, P, x, h, h1, h2, h3 => by
    have : x = (E, P) := by unfold portsD at h; cases h; rfl
    subst this; exact ⟨h1, h2, h3⟩
  | (w, a) :: t, E, P, x, h, h1, h2, h3 => by
    unfold portsD at h
    split at h
    · cases h
    · rename_i e he
      split at h
      · cases h
      · rename_i h6
        refine portsD_ok h (by simp [h1]) (by simp; omega) fun y hy => ?_
        rcases List.mem_append.1 hy with hy | hy
        · exact h3 y hy
        · rw [List.mem_singleton.1 hy]; exact portD_range he
/-- The rows are well-formed. -/
structure PR.Ok (r : PR) : Prop where
  len : r.ends.length = r.ports.length
  six : r.ends.length ≤ 6
  ends : ∀ e ∈ r.ends, 0 ≤ e.1 ∧ e.1 < 1000000 ∧ 0 ≤ e.2 ∧ e.2 < 1000000
  id : 0 ≤ r.id ∧ r.id ≤ 999999
  inp : 0 ≤ r.inp ∧ r.inp ≤ 9
theorem idD_range (ws : List Wd) : 0 ≤ (idD ws).1 ∧ (idD ws).1 ≤ 999999 := by
  unfold idD
  split
  · simp
  · split
    · rename_i n hn
      obtain ⟨_, _, _, h⟩ := markD_some.1 hn
      simp only []; omega
    · simp
theorem inpD_range (ws : List Wd) : 0 ≤ (inpD ws).1 ∧ (inpD ws).1 ≤ 9 := by
  unfold inpD
  split
  · simp
  · split
    · rename_i n hn
      obtain ⟨_, _, _, h⟩ := markD_some.1 hn
      simp only []; omega
    · simp
theorem rowQ_ok {ws : List Wd} {a : Nat} {r : PR} (h : rowQ ws a = .ok r) : r.Ok := by
  unfold rowQ mkPR at h
  split at h
  · cases h
  · rename_i x hx
    cases h
    obtain ⟨h1, h2, h3⟩ := portsD_ok hx rfl (by simp) (by simp)
    exact ⟨h1, h2, h3, idD_range _, inpD_range _⟩
theorem rowsP_ok : ∀ {L : List Wd} {rs out : List PR}, rowsP L rs = .ok out → (∀ r ∈ rs, r.Ok) → rs.length ≤ 40 → (∀ r ∈ out, r.Ok) ∧ out.length ≤ 40 ∧ out.length = rs.length + L.length
  | [], rs, out, h, h1, h2 => by
    have : out = rs := by unfold rowsP at h; cases h; rfl
    subst this; exact ⟨h1, h2, rfl⟩
  | (t, a) :: L, rs, out, h, h1, h2 => by
    unfold rowsP at h
    split at h
    · cases h
    · rename_i h40
      split at h
      · cases h
      · rename_i r hr
        have := rowsP_ok h (fun x hx => by
          rcases List.mem_append.1 hx with hx | hx
          · exact h1 x hx
          · rw [List.mem_singleton.1 hx]; exact rowQ_ok hr) (by simp; omega)
        simp only [List.length_append, List.length_cons, List.length_nil] at this ⊢
        exact ⟨this.1, this.2.1, by omega⟩

/-- Reading word by word, as one who counts the words. -/
def refW (at' : Nat) : Nat → Int → Int → Int → List (Int × Int) → List Int → List Wd → Except (Int × Int) PR
  | _, id, inp, f, E, P, [] => .ok ⟨E, id, inp, if id = 0 then 0 else f, P, (at' : Int)⟩
  | c, id, inp, f, E, P, (w, a) :: t =>
    match (if c = 0 then markD 35 1 999999 w else none) with
    | some n => refW at' (c + 1) (n : Int) inp (if c = 0 then (a : Int) else f) E P t
    | none =>
      match (if P = [] ∧ (c = 0 ∨ (c = 1 ∧ 0 < id)) then markD 47 0 9 w else none) with
      | some n => refW at' (c + 1) id (n : Int) (if c = 0 then (a : Int) else f) E P t
      | none => match portD w with
        | none => .error ((a : Int), 2)
        | some e => if E.length = 6 then .error ((a : Int), 3) else refW at' (c + 1) id inp (if c = 0 then (a : Int) else f) (E ++ [e]) (P ++ [(a : Int)]) t
theorem refW_ports {at' : Nat} : ∀ {ws : List Wd} {c : Nat} {id inp f : Int} {E : List (Int × Int)} {P : List Int}, c ≠ 0 → (P ≠ [] ∨ c ≠ 1 ∨ ¬ 0 < id) →
    refW at' c id inp f E P ws = mkPR at' id (if id = 0 then 0 else f) inp (portsD ws E P)
  | [], c, id, inp, f, E, P, _, _ => rfl
  | (w, a) :: t, c, id, inp, f, E, P, hc, hp => by
    have h2 : ¬ (P = [] ∧ (c = 0 ∨ (c = 1 ∧ 0 < id))) := by
      rintro ⟨h3, h4⟩
      rcases hp with h5 | h5 | h5
      · exact h5 h3
      · rcases h4 with h4 | h4
        · exact hc h4
        · exact h5 h4.1
      · rcases h4 with h4 | h4
        · exact hc h4
        · exact h5 h4.2
    unfold refW portsD
    rw [if_neg hc, if_neg h2]
    simp only []
    cases portD w with
    | none => rfl
    | some e =>
      simp only []
      by_cases h6 : E.length = 6
      · rw [if_pos h6, if_pos h6]; rfl
      · rw [if_neg h6, if_neg h6]
        rw [refW_ports (by omega) (.inl (by simp)), if_neg hc]
theorem refW_eq (at' : Nat) (ws : List Wd) : refW at' 0 0 0 (at' : Int) [] [] ws = rowQ ws at' := by
  match ws with
  | [] => rfl
  | (w, a) :: t =>
    unfold rowQ idD
    unfold refW
    simp only [if_true, true_or, and_true]
    cases h1 : markD 35 1 999999 w with
    | some n =>
      simp only []
      have hn : (0 : Int) < n := by obtain ⟨_, _, _, h⟩ := markD_some.1 h1; omega
      match t with
      | [] =>
        unfold refW inpD portsD mkPR
        rw [if_neg (by omega)]
      | (w2, a2) :: t2 =>
        have hn0 : ¬ (n : Int) = 0 := by omega
        unfold refW inpD
        simp only [show ((0 : Nat) + 1 = 0) = False by simp, if_false, hn, or_true, if_true, and_self]
        cases h2 : markD 47 0 9 w2 with
        | some m =>
          simp only []
          rw [refW_ports (by omega) (.inr (.inl (by omega))), if_neg hn0]
        | none =>
          simp only []
          unfold portsD
          cases portD w2 with
          | none => rfl
          | some e =>
            simp only [List.length_nil]
            rw [if_neg (by omega), if_neg (by omega), refW_ports (by omega) (.inl (by simp)), if_neg hn0]
    | none =>
      simp only []
      unfold inpD
      simp only []
      cases h2 : markD 47 0 9 w with
      | some m =>
        simp only []
        rw [refW_ports (by omega) (.inr (.inr (by omega))), if_pos rfl]
      | none =>
        simp only []
        unfold portsD
        cases portD w with
        | none => rfl
        | some e =>
          simp only [List.length_nil]
          rw [if_neg (by omega), if_neg (by omega), refW_ports (by omega) (.inl (by simp)), if_pos rfl]

/-! ### What reading answers -/

def endsR (rs : List PR) : List (List (Int × Int)) := rs.map (·.ends)
def idsR (rs : List PR) : List Int := rs.map (·.id)
def inpsR (rs : List PR) : List Int := rs.map (·.inp)
/-- Port i of row v is joined as it says. -/
def JoinedR (rs : List PR) (v i : Nat) : Prop := ∃ a b : Nat, ((endsR rs)[v]?).bind (·[i]?) = some ((a : Int), (b : Int)) ∧ ((endsR rs)[a]?).bind (·[b]?) = some ((v : Int), (i : Int))
def HereR (rs : List PR) (v i : Nat) : Prop := ∃ r, rs[v]? = some r ∧ i < r.ends.length
/-- The first port that isn't. -/
structure BadEnd (rs : List PR) (x : Int) : Prop where
  ex : ∃ v i r, rs[v]? = some r ∧ i < r.ends.length ∧ ¬ JoinedR rs v i ∧ r.ports[i]? = some x ∧ (∀ u j, HereR rs u j → (u < v ∨ (u = v ∧ j < i)) → JoinedR rs u j)
theorem BadEnd.unique {rs : List PR} {x y : Int} (h : BadEnd rs x) (h' : BadEnd rs y) : x = y := by
  obtain ⟨v, i, r, h1, h2, h3, h4, h5⟩ := h.ex
  obtain ⟨u, j, q, g1, g2, g3, g4, g5⟩ := h'.ex
  have e1 : ¬ (u < v ∨ (u = v ∧ j < i)) := fun hh => g3 (h5 u j ⟨q, g1, g2⟩ hh)
  have e2 : ¬ (v < u ∨ (v = u ∧ i < j)) := fun hh => h3 (g5 v i ⟨r, h1, h2⟩ hh)
  have : v = u := by omega
  subst this
  have : i = j := by omega
  subst this
  rw [h1] at g1
  obtain rfl := Option.some.inj g1
  rw [h4] at g4
  exact Option.some.inj g4
def EndsOkR (rs : List PR) : Prop := ∀ v i, HereR rs v i → JoinedR rs v i
/-- The first row whose identifier is missing or not new. -/
def IdBadAt (rs : List PR) (v : Nat) (r : PR) : Prop := r.id = 0 ∨ r.id ∈ (idsR rs).take v
structure BadId (rs : List PR) (x : Int) : Prop where
  ex : ∃ v r, rs[v]? = some r ∧ IdBadAt rs v r ∧ x = (if r.id = 0 then r.lat else r.fst) ∧ ∀ u q, rs[u]? = some q → u < v → ¬ IdBadAt rs u q
theorem BadId.unique {rs : List PR} {x y : Int} (h : BadId rs x) (h' : BadId rs y) : x = y := by
  obtain ⟨v, r, h1, h2, h3, h4⟩ := h.ex
  obtain ⟨u, q, g1, g2, g3, g4⟩ := h'.ex
  have e1 : ¬ u < v := fun hh => h4 u q g1 hh g2
  have e2 : ¬ v < u := fun hh => g4 v r h1 hh h2
  have : v = u := by omega
  subst this
  rw [h1] at g1
  obtain rfl := Option.some.inj g1
  rw [h3, g3]
def NoIds (rs : List PR) : Prop := ∀ r ∈ rs, r.id = 0
/-- The network of rows. -/
def netR (rs : List PR) (ids : Bool) : Net := ⟨endsR rs, if ids then idsR rs else [], inpsR rs⟩
def netNil : Net := ⟨[], [], []⟩

inductive RowsAns (rs : List PR) : Net → Int → Int → Prop
  | none : rs = [] → RowsAns rs netNil 0 3
  | ends {x : Int} : rs ≠ [] → BadEnd rs x → RowsAns rs netNil x 4
  | noIds : rs ≠ [] → EndsOkR rs → NoIds rs → RowsAns rs (netR rs false) 0 0
  | badId {x : Int} : rs ≠ [] → EndsOkR rs → ¬ NoIds rs → BadId rs x → RowsAns rs netNil x 5
  | good : rs ≠ [] → EndsOkR rs → ¬ NoIds rs → (∀ v r, rs[v]? = some r → ¬ IdBadAt rs v r) → RowsAns rs (netR rs true) 0 0
theorem BadEnd.not {rs : List PR} {x : Int} (h : BadEnd rs x) (h' : EndsOkR rs) : False := by
  obtain ⟨v, i, r, h1, h2, h3, _, _⟩ := h.ex
  exact h3 (h' v i ⟨r, h1, h2⟩)
theorem BadId.not {rs : List PR} {x : Int} (h : BadId rs x) (h' : ∀ v r, rs[v]? = some r → ¬ IdBadAt rs v r) : False := by
  obtain ⟨v, r, h1, h2, _, _⟩ := h.ex
  exact h' v r h1 h2
theorem RowsAns.unique {rs : List PR} {n m : Net} {x y c d : Int} (h : RowsAns rs n x c) (h' : RowsAns rs m y d) : n = m ∧ x = y ∧ c = d := by
  cases h with
  | none h1 => cases h' with
    | none _ => exact ⟨rfl, rfl, rfl⟩
    | ends g1 _ => exact absurd h1 g1
    | noIds g1 _ _ => exact absurd h1 g1
    | badId g1 _ _ _ => exact absurd h1 g1
    | good g1 _ _ _ => exact absurd h1 g1
  | ends h1 h2 => cases h' with
    | none g1 => exact absurd g1 h1
    | ends _ g2 => exact ⟨rfl, h2.unique g2, rfl⟩
    | noIds _ g2 _ => exact (h2.not g2).elim
    | badId _ g2 _ _ => exact (h2.not g2).elim
    | good _ g2 _ _ => exact (h2.not g2).elim
  | noIds h1 h2 h3 => cases h' with
    | none g1 => exact absurd g1 h1
    | ends _ g2 => exact (g2.not h2).elim
    | noIds _ _ _ => exact ⟨rfl, rfl, rfl⟩
    | badId _ _ g3 _ => exact absurd h3 g3
    | good _ _ g3 _ => exact absurd h3 g3
  | badId h1 h2 h3 h4 => cases h' with
    | none g1 => exact absurd g1 h1
    | ends _ g2 => exact (g2.not h2).elim
    | noIds _ _ g3 => exact absurd g3 h3
    | badId _ _ _ g4 => exact ⟨rfl, h4.unique g4, rfl⟩
    | good _ _ _ g4 => exact (h4.not g4).elim
  | good h1 h2 h3 h4 => cases h' with
    | none g1 => exact absurd g1 h1
    | ends _ g2 => exact (g2.not h2).elim
    | noIds _ _ g3 => exact absurd g3 h3
    | badId _ _ _ g4 => exact (g4.not h4).elim
    | good _ _ _ _ => exact ⟨rfl, rfl, rfl⟩
inductive NetAns (s : List UInt8) : Net → Int → Int → Prop
  | long : 6000 < s.length → NetAns s netNil 0 1
  | bad {f : Int × Int} : ¬ 6000 < s.length → rowsP (linesG s 0) [] = .error f → NetAns s netNil f.1 f.2
  | rows {rs : List PR} {n : Net} {x c : Int} : ¬ 6000 < s.length → rowsP (linesG s 0) [] = .ok rs → RowsAns rs n x c → NetAns s n x c
theorem NetAns.unique {s : List UInt8} {n m : Net} {x y c d : Int} (h : NetAns s n x c) (h' : NetAns s m y d) : n = m ∧ x = y ∧ c = d := by
  cases h with
  | long h1 => cases h' with
    | long _ => exact ⟨rfl, rfl, rfl⟩
    | bad g1 _ => exact absurd h1 g1
    | rows g1 _ _ => exact absurd h1 g1
  | bad h1 h2 => cases h' with
    | long g1 => exact absurd g1 h1
    | bad _ g2 => rw [h2] at g2; cases g2; exact ⟨rfl, rfl, rfl⟩
    | rows _ g2 _ => rw [h2] at g2; cases g2
  | rows h1 h2 h3 => cases h' with
    | long g1 => exact absurd g1 h1
    | bad _ g2 => rw [h2] at g2; cases g2
    | rows _ g2 g3 => rw [h2] at g2; cases g2; exact h3.unique g3

end Go.Proofs.YtcldmpllpfojhaaDoor
end

section
/- The tidy text of a network in plain words. -/
namespace Go.Proofs.YtcldmpllpfojhaaDoor
open Go.GX Go.RowKit
open Go.Lib (decDigits)
set_option maxRecDepth 100000

def endT (e : Int × Int) : List UInt8 := decDigits e.1.toNat ++ 46 :: decDigits e.2.toNat
def idT (n : Net) (v : Nat) : List (List UInt8) := if 0 < n.ids.length then [35 :: decDigits (n.ids.getD v 0).toNat] else []
def inpT (n : Net) (v : Nat) : List (List UInt8) := if 0 < n.inputs.getD v 0 then [47 :: decDigits (n.inputs.getD v 0).toNat] else []
def wordsT (n : Net) (v : Nat) : List (List UInt8) := idT n v ++ inpT n v ++ (n.ends.getD v []).map endT
def lineT (n : Net) (v : Nat) : List UInt8 := [32].intercalate (wordsT n v)
/-- The lines of the first nodes. -/
def textT (n : Net) (k : Nat) : List UInt8 := (List.range k).flatMap fun v => lineT n v ++ [10]

theorem textT_succ (n : Net) (k : Nat) : textT n (k + 1) = textT n k ++ (lineT n k ++ [10]) := by
  unfold textT
  rw [List.range_succ, List.flatMap_append]
  simp

/-- Networks whose numbers are in range. -/
structure Fine (n : Net) : Prop where
  len : n.ends.length ≤ 40
  deg : ∀ r ∈ n.ends, r.length ≤ 6
  ends : ∀ r ∈ n.ends, ∀ e ∈ r, 0 ≤ e.1 ∧ e.1 < 1000000 ∧ 0 ≤ e.2 ∧ e.2 < 1000000
  ids : n.ids = [] ∨ n.ids.length = n.ends.length
  idr : ∀ x ∈ n.ids, 0 ≤ x ∧ x < 1000000
  inl : n.inputs.length = n.ends.length
  inr : ∀ x ∈ n.inputs, 0 ≤ x ∧ x ≤ 9

theorem netR_fine {rs : List PR} {b : Bool} (hok : ∀ r ∈ rs, r.Ok) (hl : rs.length ≤ 40) : Fine (netR rs b) := by
  refine ⟨by simpa [netR, endsR] using hl, fun r hr => ?_, fun r hr e he => ?_, ?_, fun x hx => ?_, by simp [netR, endsR, inpsR], fun x hx => ?_⟩
  · obtain ⟨q, hq, rfl⟩ := List.mem_map.1 hr
    exact (hok q hq).six
  · obtain ⟨q, hq, rfl⟩ := List.mem_map.1 hr
    exact (hok q hq).ends e he
  · cases b
    · exact .inl rfl
    · exact .inr (by simp [netR, idsR, endsR])
  · cases b
    · cases hx
    · obtain ⟨q, hq, rfl⟩ := List.mem_map.1 (show x ∈ idsR rs from hx)
      have := (hok q hq).id
      omega
  · obtain ⟨q, hq, rfl⟩ := List.mem_map.1 (show x ∈ inpsR rs from hx)
    exact (hok q hq).inp

theorem num_few {x : Int} (h0 : 0 ≤ x) (h : x < 1000000) : (decDigits x.toNat).length ≤ 6 := decDigits_few.1 (by omega)
theorem endT_len {e : Int × Int} (h : 0 ≤ e.1 ∧ e.1 < 1000000 ∧ 0 ≤ e.2 ∧ e.2 < 1000000) : (endT e).length ≤ 13 := by
  have h1 := num_few h.1 h.2.1
  have h2 := num_few h.2.2.1 h.2.2.2
  unfold endT
  rw [List.length_append, List.length_cons]
  omega
theorem Fine.words {n : Net} (h : Fine n) {v : Nat} (hv : v < n.ends.length) : (wordsT n v).length ≤ 8 ∧ ∀ x ∈ wordsT n v, x.length ≤ 13 := by
  have hrow : n.ends.getD v [] = n.ends[v] := by simp [hv]
  have hmem := List.getElem_mem hv
  have hin : n.inputs.getD v 0 = n.inputs[v]'(by rw [h.inl]; exact hv) := by simp [h.inl, hv]
  have h1 : (idT n v).length ≤ 1 ∧ ∀ x ∈ idT n v, x.length ≤ 13 := by
    unfold idT
    split
    · rename_i h0
      refine ⟨by simp, fun x hx => ?_⟩
      rw [List.mem_singleton.1 hx, List.length_cons]
      rcases h.ids with h2 | h2
      · rw [h2] at h0; simp at h0
      · have e : n.ids.getD v 0 = n.ids[v]'(by omega) := by simp [h2, hv]
        rw [e]
        have h3 := h.idr _ (List.getElem_mem (show v < n.ids.length by omega))
        have := num_few h3.1 h3.2
        omega
    · simp
  have h2 : (inpT n v).length ≤ 1 ∧ ∀ x ∈ inpT n v, x.length ≤ 13 := by
    unfold inpT
    split
    · refine ⟨by simp, fun x hx => ?_⟩
      rw [List.mem_singleton.1 hx, List.length_cons, hin]
      have h3 := h.inr _ (List.getElem_mem (show v < n.inputs.length by rw [h.inl]; exact hv))
      have := num_few h3.1 (by omega)
      omega
    · simp
  have h3 := h.deg _ hmem
  unfold wordsT
  rw [hrow]
  refine ⟨by simp only [List.length_append, List.length_map]; omega, fun x hx => ?_⟩
  rcases List.mem_append.1 hx with hx | hx
  · rcases List.mem_append.1 hx with hx | hx
    · exact h1.2 x hx
    · exact h2.2 x hx
  · obtain ⟨e, he, rfl⟩ := List.mem_map.1 hx
    exact endT_len (h.ends _ hmem e he)

theorem inter_snoc (c : UInt8) {L : List (List UInt8)} (h : L ≠ []) (x : List UInt8) : [c].intercalate (L ++ [x]) = [c].intercalate L ++ c :: x := by
  obtain ⟨y, L, rfl⟩ := List.exists_cons_of_ne_nil h
  rw [List.cons_append, intercalate_cons, intercalate_cons, List.flatMap_append]
  simp
theorem inter_len (c : UInt8) {m : Nat} : ∀ {L : List (List UInt8)}, (∀ x ∈ L, x.length ≤ m) → ([c].intercalate L).length ≤ L.length * (m + 1)
  | [], _ => by simp [List.intercalate]
  | y :: L, h => by
    rw [intercalate_cons]
    have h1 := h y (by simp)
    have : ∀ {L : List (List UInt8)}, (∀ x ∈ L, x.length ≤ m) → (L.flatMap fun y => [c] ++ y).length ≤ L.length * (m + 1) := by
      intro L
      induction L with
      | nil => intro _; simp
      | cons z L ih =>
        intro h
        have h2 := h z (by simp)
        have h3 := ih fun x hx => h x (by simp [hx])
        simp only [List.flatMap_cons, List.length_append, List.length_cons, List.length_nil, Nat.add_mul] at h3 ⊢
        omega
    have h4 := this (L := L) fun x hx => h x (by simp [hx])
    simp only [List.length_append, List.length_cons, Nat.add_mul] at h4 ⊢
    omega
theorem Fine.line {n : Net} (h : Fine n) {v : Nat} (hv : v < n.ends.length) : (lineT n v).length ≤ 112 := by
  obtain ⟨h1, h2⟩ := h.words hv
  have := inter_len 32 h2
  unfold lineT
  omega
theorem Fine.text {n : Net} (h : Fine n) : ∀ {k : Nat}, k ≤ n.ends.length → (textT n k).length ≤ 113 * k
  | 0, _ => by simp [textT]
  | k + 1, hk => by
    have h1 := h.text (k := k) (by omega)
    have h2 := h.line (show k < n.ends.length by omega)
    rw [textT_succ]
    simp only [List.length_append, List.length_cons, List.length_nil]
    omega

end Go.Proofs.YtcldmpllpfojhaaDoor
end

section
/- Slices that may be written, whatever they hold: the marks that a law leaves in its arguments and answers. No program is named here. -/
namespace Go.GX
open Go.RowKit

/-- Each cell of the slice may be written. -/
def Wr (w : World) (s : Sl) (sz : Nat) : Prop := ∀ j, j < s.len * sz → ∃ a, s.a = some a ∧ (∃ old, w.cell? (a.add j) = some old) ∧ w.frozen? (a.add j) = false

/-- No cell goes, none is frozen. -/
def Shp (w w' : World) : Prop := (∀ a old, w.cell? a = some old → ∃ new, w'.cell? a = some new) ∧ ∀ a, w.frozen? a = false → (∃ old, w.cell? a = some old) → w'.frozen? a = false

theorem Shp.refl (w : World) : Shp w w := ⟨fun _ old h => ⟨old, h⟩, fun _ h _ => h⟩
theorem Shp.trans {a b c : World} (h : Shp a b) (k : Shp b c) : Shp a c :=
  ⟨fun p old hp => by obtain ⟨n, hn⟩ := h.1 p old hp; exact k.1 p n hn, fun p hf ⟨old, hp⟩ => k.2 p (h.2 p hf ⟨old, hp⟩) (h.1 p old hp)⟩
theorem Shp.setCell (w : World) (p : Addr) (v : Value) : Shp w (w.setCell p v) :=
  ⟨fun a old h => by
    by_cases hp : p = a
    · subst hp; exact ⟨v, World.cell?_setCell_same w p v h⟩
    · exact ⟨old, by rw [World.cell?_setCell_other w p a v hp]; exact h⟩, fun a h _ => by rw [World.frozen?_setCell]; exact h⟩
theorem Shp.ext {w w' : World} (h : Ext w w') : Shp w w' :=
  ⟨fun a old ho => ⟨old, h.cell ho⟩, fun a hf ⟨old, ho⟩ => by
    have hb : w'.heap[a.block]? = w.heap[a.block]? := h.same (cell_lt ho)
    unfold World.frozen? at hf ⊢
    rw [hb]; exact hf⟩

theorem Wr.shp {w w' : World} {s : Sl} {sz : Nat} (h : Wr w s sz) (hs : Shp w w') : Wr w' s sz := fun j hj => by
  obtain ⟨a, ha, ⟨old, hc⟩, hf⟩ := h j hj
  exact ⟨a, ha, hs.1 _ _ hc, hs.2 _ hf ⟨old, hc⟩⟩

theorem OwnL.wr {α : Type} [Flat α] {w : World} {base : Nat} {e : TypeId} {s : Sl} {l : List α} (h : OwnL w base e s l) : Wr w s (Rep.sz α) := fun j hj => by
  rcases h.2.2 with ⟨hv, h0⟩ | ⟨g, cap, cur, hv, hb, hg, hle, _, hsz, htake⟩
  · rw [h0] at hj; simp at hj
  · simp [Sl.v] at hv
    obtain ⟨ha, rfl⟩ := hv
    have hlen := h.2.length
    have hlt : j < (l.flatMap Flat.cells).length := by rw [hlen]; exact hj
    have hown : w.ownsRow base e (Rep.sz α) s.v s.len (l.flatMap Flat.cells) := h.2
    refine ⟨_, ha, ⟨_, World.ownsRow.cells hown (g := g) (by simp [Sl.v, ha, Value.ownBlock]) j _ (List.getElem?_eq_getElem hlt)⟩, ?_⟩
    simp [World.frozen?, add_block, hg]

/-- The block of a slice. -/
def blkOf (s : Sl) (b : Nat) : Prop := ∃ a, s.a = some a ∧ a.block = b

/-- Numbers in a row. -/
def marks (k : Int) (n : Nat) : List Int := (List.range n).map fun (i : Nat) => k + (i : Int)

/-! ### Lists that are filled from the front -/

/-! ### Boxes and lists of the call's own, apart by their types -/

def oB (s : Sl) (b : Nat) : Prop := s.v.ownBlock = some b

/-! ### Answers that hold only where something holds -/

structure AnsG {α : Type} (g : Prop) (x d y : α) (ok : Bool) : Prop where
  ok : ok = true ↔ g
  val : g → y = x
  non : ¬ g → y = d

theorem AnsG.yes {α : Type} {g : Prop} {x d : α} (h : g) : AnsG g x d x true := ⟨by simp [h], fun _ => rfl, fun hn => absurd h hn⟩
theorem AnsG.no {α : Type} {g : Prop} {x d : α} (h : ¬ g) : AnsG g x d d false := ⟨by simp [h], fun hg => absurd hg h, fun _ => rfl⟩
end Go.GX
end

section
/- The laws' marks: what they write into copies and answers, and what they look for again. -/
namespace Go.Proofs.YtcldmpllpfojhaaDoor
open Go.GX Go.RowKit
set_option maxRecDepth 100000

/-- A slice of numbers that may be marked: its blocks lie between two bounds. -/
structure MInt (w : World) (s : Sl) (lo hi : Nat) : Prop where
  wr : Wr w s 1
  len : s.len ≤ 1048576
  blk : ∀ b, blkOf s b → lo ≤ b ∧ b < hi

theorem MInt.shp {w w' : World} {s : Sl} {lo hi : Nat} (h : MInt w s lo hi) (hs : Shp w w') : MInt w' s lo hi := ⟨h.wr.shp hs, h.len, h.blk⟩
theorem MInt.ext {w w' : World} {s : Sl} {lo hi : Nat} (h : MInt w s lo hi) (hE : Ext w w') : MInt w' s lo hi := h.shp (Shp.ext hE)

/-- A slice of slices of numbers that may be marked. -/
structure MIntSS (w : World) (s : Sl) (lo hi : Nat) : Prop where
  ex : ∃ ss : List Sl, OwnL w lo T.t_sl_int s ss ∧ ss.length ≤ 1048576 ∧ ∀ r ∈ ss, MInt w r lo hi ∧ ∀ b, blkOf r b → s.v.ownBlock ≠ some b

/-- A network that may be marked. -/
structure MNet (w : World) (x y z : Sl) (lo hi : Nat) : Prop where
  ends : ∃ ss : List Sl, OwnL w lo T.t_sl_i_End x ss ∧ ss.length ≤ 1048576 ∧ ∀ r ∈ ss, Wr w r 2 ∧ r.len ≤ 1048576 ∧ ∀ b, blkOf r b → (lo ≤ b ∧ b < hi) ∧ x.v.ownBlock ≠ some b
  ids : MInt w y lo hi
  inputs : MInt w z lo hi

theorem MNet.ext {w w' : World} {x y z : Sl} {lo hi : Nat} (h : MNet w x y z lo hi) (hE : Ext w w') : MNet w' x y z lo hi := by
  obtain ⟨⟨ss, h1, h2, h3⟩, h4, h5⟩ := h
  exact ⟨⟨ss, h1.ext hE, h2, fun r hr => ⟨(h3 r hr).1.shp (Shp.ext hE), (h3 r hr).2⟩⟩, h4.ext hE, h5.ext hE⟩

/-! ### Answers that are lists -/

/-- An answer of the call's own: its blocks lie from base on. -/
structure OutL (base : Nat) (w : World) (s : Sl) (l : List Int) : Prop where
  own : OwnL w base T.t_int s l
  i64 : ∀ x ∈ l, I64 x
  small : l.length ≤ 1048576

theorem OutL.rep {base : Nat} {w : World} {s : Sl} {l : List Int} (h : OutL base w s l) : R w s l := (h.own.rep h.i64).any
theorem OutL.ext {base : Nat} {w w' : World} {s : Sl} {l : List Int} (h : OutL base w s l) (hE : Ext w w') : OutL base w' s l := ⟨h.own.ext hE, h.i64, h.small⟩
theorem OutL.nil (base : Nat) (w : World) : OutL base w ⟨none, 0, 0⟩ [] := ⟨OwnL.nil _ _ _, by simp, by simp⟩
theorem OutL.low {base b : Nat} {w : World} {s : Sl} {l : List Int} (h : OutL base w s l) (hb : b ≤ base) : OutL b w s l := ⟨h.own.low hb, h.i64, h.small⟩

end Go.Proofs.YtcldmpllpfojhaaDoor
end

section
/- Lists of lists of the call's own whose rows lie apart: rows that are written, that grow, that are added. No program is named here. -/
namespace Go.GX
open Go.RowKit

/-- The slice s of the call's own holds the rows ss, which read as the lists L and lie in blocks of their own. -/
structure RowsD {α : Type} [Flat α] (w : World) (base : Nat) (e e' : TypeId) (s : Sl) (L : List (List α)) (ss : List Sl) : Prop where
  own : OwnL w base e' s ss
  len : ss.length = L.length
  row : ∀ (i : Nat) (r : Sl) (l : List α), ss[i]? = some r → L[i]? = some l → OwnL w base e r l
  apart : ∀ (i j : Nat) (r q : Sl), ss[i]? = some r → ss[j]? = some q → i ≠ j → ∀ k, r.v.ownBlock = some k → q.v.ownBlock ≠ some k

section
variable {α : Type} [Flat α] {w w' : World} {base : Nat} {e e' : TypeId} {s : Sl} {L : List (List α)} {ss : List Sl}

theorem RowsD.own2 (h : RowsD w base e e' s L ss) : Own2 w base e e' s L := ⟨ss, h.own, h.len, h.row⟩
theorem RowsD.rep (h : RowsD w base e e' s L ss) (hok : ∀ l ∈ L, ∀ x ∈ l, Flat.ok x) : R w s L := h.own2.rep hok
theorem RowsD.nil (w : World) (base : Nat) (e e' : TypeId) : RowsD w base e e' ⟨none, 0, 0⟩ ([] : List (List α)) [] := ⟨OwnL.nil _ _ _, rfl, fun i r l h => by simp at h, fun i j r q h => by simp at h⟩
theorem RowsD.keep (h : RowsD w base e e' s L ss) (hk : ∀ k, base ≤ k → k < w.heap.size → w'.heap[k]? = w.heap[k]?) : RowsD w' base e e' s L ss :=
  ⟨h.own.keep fun k hb => hk k (h.own.blk k hb).1 (h.own.blk k hb).2, h.len, fun i r l hr hl => (h.row i r l hr hl).keep fun k hb => hk k ((h.row i r l hr hl).blk k hb).1 ((h.row i r l hr hl).blk k hb).2, h.apart⟩
theorem RowsD.ext (h : RowsD w base e e' s L ss) (hE : Ext w w') : RowsD w' base e e' s L ss := h.keep fun _ _ hk => hE.same hk
theorem RowsD.low (h : RowsD w base e e' s L ss) {b : Nat} (hb : b ≤ base) : RowsD w b e e' s L ss := ⟨h.own.low hb, h.len, fun i r l hr hl => (h.row i r l hr hl).low hb, h.apart⟩

theorem RowsD.at (h : RowsD w base e e' s L ss) {i : Nat} (hi : i < L.length) : ∃ r, ss[i]? = some r ∧ OwnL w base e r L[i] := by
  have h1 : i < ss.length := by rw [h.len]; exact hi
  exact ⟨ss[i], by simp [h1], h.row i ss[i] L[i] (by simp [h1]) (by simp [hi])⟩

/-- Looking up a row. -/
theorem RowsD.ix (h : RowsD w base e e' s L ss) {i : Nat} (hi : i < L.length) {K : Addr → Prop} (hk : ∀ p r, ss[i]? = some r → OwnL w base e r L[i] → w.cell? p = some r.v → s.v.ownBlock = some p.block → K p) : IX s i 1 K := by
  obtain ⟨r, hr, hO⟩ := h.at hi
  obtain ⟨a, cs, ha, _, hrep, hc⟩ := (h.own.rep fun _ _ => trivial).2.2 i r hr
  have hcs : cs = [r.v] := hrep
  subst hcs
  have hlen := h.own.1
  have hl2 := h.len
  refine ⟨a, ha, by omega, by omega, hk _ r hr hO (hc 0 _ rfl) ?_⟩
  have hsv : s.v = .slice (some a) s.len s.cap := by simp [Sl.v, ha]
  rw [hsv, add_block]
  rcases h.own.2.2 with ⟨hv, h0⟩ | ⟨g, cap, cur, hv, _⟩
  · omega
  · rw [hsv] at hv
    obtain ⟨h1, _⟩ := Value.slice.inj hv
    cases h1
    rfl

theorem RowsD.block_ne (h : RowsD w base e e' s L ss) (hne : e ≠ e') {i : Nat} {r : Sl} (hr : ss[i]? = some r) {k : Nat} (hk : r.v.ownBlock = some k) : s.v.ownBlock ≠ some k := fun he => by
  have hi : i < L.length := by rw [← h.len]; exact (List.getElem?_eq_some_iff.1 hr).1
  obtain ⟨c1, e1⟩ := (h.row i r L[i] hr (by simp [hi])).type hk
  obtain ⟨c2, e2⟩ := h.own.type he
  rw [e1] at e2
  exact hne (Obj.cells.inj (Option.some.inj e2)).2.1

/-- A row that is written in place. -/
theorem RowsD.chg (h : RowsD w base e e' s L ss) (hne : e ≠ e') {i : Nat} {r : Sl} (hr : ss[i]? = some r) {l' : List α} (hO : OwnL w' base e r l') (hs : Step w w' r.v.ownBlock) : RowsD w' base e e' s (L.set i l') ss := by
  have hi : i < L.length := by rw [← h.len]; exact (List.getElem?_eq_some_iff.1 hr).1
  refine ⟨h.own.keep fun k hk => hs.block k (h.own.blk k hk).2 fun he => h.block_ne hne hr he.symm hk, by simp [h.len], fun j q l hq hl => ?_, h.apart⟩
  by_cases hji : j = i
  · subst hji
    rw [List.getElem?_set_self hi] at hl
    rw [hr] at hq
    cases hl; cases hq
    exact hO
  · rw [List.getElem?_set_ne (Ne.symm hji)] at hl
    have hq' := h.row j q l hq hl
    exact hq'.keep fun k hk => hs.block k (hq'.blk k hk).2 fun he => h.apart i j r q hr hq (Ne.symm hji) k he.symm hk

/-- A row that is replaced: what it became lies in its block or in a new one. -/
theorem RowsD.put (h : RowsD w base e e' s L ss) (hne : e ≠ e') {i : Nat} (hi : i < L.length) {r r' : Sl} (hr : ss[i]? = some r) {w1 : World} {l' : List α} (hO : OwnL w1 base e r' l') (hs : Step w w1 r.v.ownBlock) (hn : NewOr w r r') {p : Addr} (hp : Plc s i 1 p) {K : World → Prop}
    (hk : ∀ w2, RowsD w2 base e e' s (L.set i l') (ss.set i r') → Step w1 w2 s.v.ownBlock → K w2) : ST p 0 [r'.v] w1 K := by
  have hi' : i < ss.length := by rw [h.len]; exact hi
  have hown : OwnL w1 base e' s ss := h.own.keep fun k hk => hs.block k (h.own.blk k hk).2 fun he => h.block_ne hne hr he.symm hk
  have hlt : ∀ (j : Nat) (q : Sl), ss[j]? = some q → ∀ k, q.v.ownBlock = some k → k < w.heap.size := fun j q hq k hk => by
    have hj : j < L.length := by rw [← h.len]; exact (List.getElem?_eq_some_iff.1 hq).1
    exact ((h.row j q L[j] hq (by simp [hj])).blk k hk).2
  have hap : ∀ (j : Nat) (q : Sl), ss[j]? = some q → j ≠ i → ∀ k, r'.v.ownBlock = some k → q.v.ownBlock ≠ some k := fun j q hq hji k hk hqk => by
    rcases hn with hn | hn
    · rw [hn] at hk
      exact h.apart i j r q hr hq (Ne.symm hji) k hk hqk
    · have := hn k hk
      have := hlt j q hq k hqk
      omega
  refine ST_own hown hi' (p := p) hp r' rfl fun w2 hO2 hs2 => hk w2 ⟨hO2, by simp [h.len], fun j q l hq hl => ?_, fun j k q q' hq hq' hjk => ?_⟩ hs2
  · have hst : ∀ {q : Sl} {l : List α}, OwnL w1 base e q l → OwnL w2 base e q l := fun hq => hq.step hown hne hs2
    by_cases hji : j = i
    · subst hji
      rw [List.getElem?_set_self hi] at hl
      rw [List.getElem?_set_self hi'] at hq
      cases hl; cases hq
      exact hst hO
    · rw [List.getElem?_set_ne (Ne.symm hji)] at hl hq
      have hq' := h.row j q l hq hl
      exact hst (hq'.keep fun k hk => hs.block k (hq'.blk k hk).2 fun he => h.apart i j r q hr hq (Ne.symm hji) k he.symm hk)
  · by_cases hji : j = i
    · subst hji
      rw [List.getElem?_set_self hi'] at hq
      rw [List.getElem?_set_ne hjk] at hq'
      cases hq
      exact hap k q' hq' (Ne.symm hjk)
    · rw [List.getElem?_set_ne (Ne.symm hji)] at hq
      by_cases hki : k = i
      · subst hki
        rw [List.getElem?_set_self hi'] at hq'
        cases hq'
        exact fun b hb hb' => hap j q hq hji b hb' hb
      · rw [List.getElem?_set_ne (Ne.symm hki)] at hq'
        exact h.apart j k q q' hq hq' hjk

end

/-- One more row. -/
theorem RUN_append_rowDF {α : Type} [Flat α] {P : Program} {t e e' : TypeId} {bytes : Nat} {z : Value} (hT : SlT P t e' 1 bytes z) (hne : e ≠ e') {w : World} {base b1 : Nat} {s y r : Sl} {L : List (List α)} {ss : List Sl} {l : List α} (h : RowsD w base e e' s L ss) (hbase : base ≤ w.heap.size)
    (hr : OwnL w base e r l) (hnew : ∀ (j : Nat) (q : Sl), ss[j]? = some q → ∀ k, q.v.ownBlock = some k → r.v.ownBlock ≠ some k) (hy : OwnL w b1 e' y [r]) (hlen : (L.length + 1) * bytes ≤ 140737488355328) (hmax : L.length + 1 ≤ maxLen) {K : Sl → World → Prop}
    (hk : ∀ s' w', RowsD w' base e e' s' (L ++ [l]) (ss ++ [r]) → Step w w' s.v.ownBlock → NewOr w s s' → K s' w') : RUN P (.at .sl) (bsem .append #[t, t] t #[s.v, y.v]) w K := by
  have hl2 := h.len
  refine RUN_appendF (α := Sl) hT h.own hbase (hy.rep fun _ _ => trivial).any (by simp [hl2]; exact hlen) (by simp [hl2]; exact hmax) fun s' w' hO hs hN => hk s' w' ⟨hO, by simp [hl2], fun i q m hq hm => ?_, fun i j q q' hq hq' hij => ?_⟩ hs hN
  · by_cases hi : i < ss.length
    · rw [List.getElem?_append_left hi] at hq
      rw [List.getElem?_append_left (by omega)] at hm
      exact (h.row i q m hq hm).step h.own hne hs
    · rw [List.getElem?_append_right (by omega)] at hq
      rw [List.getElem?_append_right (by omega), ← hl2] at hm
      have : i - ss.length = 0 := by
        have := (List.getElem?_eq_some_iff.1 hq).1
        simp at this; omega
      rw [this] at hq hm
      simp at hq hm
      subst hq; subst hm
      exact hr.step h.own hne hs
  · have hcase : ∀ {i : Nat} {q : Sl}, (ss ++ [r])[i]? = some q → (i < ss.length ∧ ss[i]? = some q) ∨ (i = ss.length ∧ q = r) := fun {i q} hq => by
      by_cases hi : i < ss.length
      · rw [List.getElem?_append_left hi] at hq; exact .inl ⟨hi, hq⟩
      · rw [List.getElem?_append_right (by omega)] at hq
        have h1 := (List.getElem?_eq_some_iff.1 hq).1
        simp at h1
        have h2 : i = ss.length := by omega
        subst h2
        simp at hq
        exact .inr ⟨rfl, hq.symm⟩
    rcases hcase hq with ⟨h1, h2⟩ | ⟨h1, rfl⟩ <;> rcases hcase hq' with ⟨h3, h4⟩ | ⟨h3, rfl⟩
    · exact h.apart i j q q' h2 h4 hij
    · exact hnew i q h2
    · exact fun k hk hk' => hnew j q' h4 k hk' hk
    · omega

/-- One more row, made behind the others. -/
theorem RowsD.fresh {α : Type} [Flat α] {w w' : World} {base b1 : Nat} {e e' : TypeId} {s r : Sl} {L : List (List α)} {ss : List Sl} {l : List α} (h : RowsD w base e e' s L ss) (hr : OwnL w' b1 e r l) (hb : w.heap.size ≤ b1) : ∀ (j : Nat) (q : Sl), ss[j]? = some q → ∀ k, q.v.ownBlock = some k → r.v.ownBlock ≠ some k := fun j q hq k hk hrk => by
  have hj : j < L.length := by rw [← h.len]; exact (List.getElem?_eq_some_iff.1 hq).1
  have h1 := ((h.row j q L[j] hq (by simp [hj])).blk k hk).2
  have h2 := (hr.blk k hrk).1
  omega

end Go.GX
end

section
/- What the laws do with matrices: copy, compare, measure. Turned from our texts on a network's ends. -/
namespace Go.Proofs.YtcldmpllpfojhaaDoor
open Go.GX Go.RowKit
set_option maxRecDepth 100000

theorem slt_rows : SlT Tryd.prog T.t_sl_sl_int T.t_sl_int 1 24 (.slice none 0 0) := ⟨by kernel_rfl, by kernel_rfl, rfl, by decide⟩

/-! ### Marks in matrices -/

/-- How many numbers lie in the first rows. -/
def pre (L : List (List Int)) (i : Nat) : Nat := ((L.take i).map List.length).sum
/-- A matrix of the call's own: its rows lie apart from each other. -/
structure OutM (base : Nat) (w : World) (s : Sl) (L : List (List Int)) : Prop where
  ex : ∃ ss : List Sl, RowsD w base T.t_int T.t_sl_int s L ss
  i64 : ∀ r ∈ L, ∀ x ∈ r, I64 x
  rows : L.length ≤ 1048576
  small : ∀ r ∈ L, r.length ≤ 1048576

theorem OutM.own2 {base : Nat} {w : World} {s : Sl} {L : List (List Int)} (h : OutM base w s L) : Own2 w base T.t_int T.t_sl_int s L := by
  obtain ⟨ss, h1, h2, h3, _⟩ := h.ex
  exact ⟨ss, h1, h2, h3⟩
theorem OutM.rep {base : Nat} {w : World} {s : Sl} {L : List (List Int)} (h : OutM base w s L) : R w s L := h.own2.rep h.i64
theorem OutM.keep {base : Nat} {w w' : World} {s : Sl} {L : List (List Int)} (h : OutM base w s L) (hk : ∀ k, base ≤ k → k < w.heap.size → w'.heap[k]? = w.heap[k]?) : OutM base w' s L := by
  obtain ⟨ss, h1, h2, h3, h4⟩ := h.ex
  exact ⟨⟨ss, h1.keep fun k hb => hk k (h1.blk k hb).1 (h1.blk k hb).2, h2, fun i r l hr hl => (h3 i r l hr hl).keep fun k hb => hk k ((h3 i r l hr hl).blk k hb).1 ((h3 i r l hr hl).blk k hb).2, h4⟩, h.i64, h.rows, h.small⟩
theorem OutM.ext {base : Nat} {w w' : World} {s : Sl} {L : List (List Int)} (h : OutM base w s L) (hE : Ext w w') : OutM base w' s L := h.keep fun _ _ hk => hE.same hk
theorem OutM.nil (base : Nat) (w : World) : OutM base w ⟨none, 0, 0⟩ [] := ⟨⟨[], OwnL.nil _ _ _, rfl, fun i r l h => by simp at h, fun i j r q h => by simp at h⟩, by simp, by simp, by simp⟩
theorem OutM.low {base b : Nat} {w : World} {s : Sl} {L : List (List Int)} (h : OutM base w s L) (hb : b ≤ base) : OutM b w s L := by
  obtain ⟨ss, h1, h2, h3, h4⟩ := h.ex
  exact ⟨⟨ss, h1.low hb, h2, fun i r l hr hl => (h3 i r l hr hl).low hb, h4⟩, h.i64, h.rows, h.small⟩

/-- The blocks of a matrix's rows. -/
def RB (ss : List Sl) (b : Nat) : Prop := ∃ r ∈ ss, r.v.ownBlock = some b

/-! ### Two matrices that lie apart -/

/-- The blocks of a matrix. -/
def MB (s : Sl) (ss : List Sl) (b : Nat) : Prop := s.v.ownBlock = some b ∨ RB ss b

theorem _root_.Go.GX.RowsD.blk {w : World} {base : Nat} {s : Sl} {L : List (List Int)} {ss : List Sl} (h : RowsD w base T.t_int T.t_sl_int s L ss) {b : Nat} (hb : MB s ss b) : base ≤ b ∧ b < w.heap.size := by
  rcases hb with hb | ⟨r, hr, hb⟩
  · exact h.own.blk b hb
  · obtain ⟨i, hi, rfl⟩ := List.mem_iff_getElem.1 hr
    have hl := h.len
    exact (h.row i ss[i] (L[i]'(by omega)) (by simp [hi]) (by simp)).blk b hb

theorem _root_.Go.GX.RowsD.keepB {w w' : World} {base : Nat} {s : Sl} {L : List (List Int)} {ss : List Sl} (h : RowsD w base T.t_int T.t_sl_int s L ss) (hk : ∀ b, MB s ss b → w'.heap[b]? = w.heap[b]?) : RowsD w' base T.t_int T.t_sl_int s L ss :=
  ⟨h.own.keep fun b hb => hk b (.inl hb), h.len, fun i r l hr hl => (h.row i r l hr hl).keep fun b hb => hk b (.inr ⟨r, List.mem_of_getElem? hr, hb⟩), h.apart⟩

structure Out2M (base : Nat) (w : World) (s : Sl) (L : List (List Int)) (s' : Sl) (L' : List (List Int)) : Prop where
  ex : ∃ ss ss' : List Sl, RowsD w base T.t_int T.t_sl_int s L ss ∧ RowsD w base T.t_int T.t_sl_int s' L' ss' ∧ ∀ b, MB s ss b → ¬ MB s' ss' b
  i64 : ∀ r ∈ L, ∀ x ∈ r, I64 x
  rows : L.length ≤ 1048576
  small : ∀ r ∈ L, r.length ≤ 1048576
  i64' : ∀ r ∈ L', ∀ x ∈ r, I64 x
  rows' : L'.length ≤ 1048576
  small' : ∀ r ∈ L', r.length ≤ 1048576

theorem Out2M.keep {base : Nat} {w w' : World} {s s' : Sl} {L L' : List (List Int)} (h : Out2M base w s L s' L') (hk : ∀ k, base ≤ k → k < w.heap.size → w'.heap[k]? = w.heap[k]?) : Out2M base w' s L s' L' := by
  obtain ⟨ss, ss', h1, h2, h3⟩ := h.ex
  exact ⟨⟨ss, ss', h1.keepB fun b hb => hk b (h1.blk hb).1 (h1.blk hb).2, h2.keepB fun b hb => hk b (h2.blk hb).1 (h2.blk hb).2, h3⟩, h.i64, h.rows, h.small, h.i64', h.rows', h.small'⟩
theorem Out2M.ext {base : Nat} {w w' : World} {s s' : Sl} {L L' : List (List Int)} (h : Out2M base w s L s' L') (hE : Ext w w') : Out2M base w' s L s' L' := h.keep fun _ _ hk => hE.same hk
theorem Out2M.nil (base : Nat) (w : World) : Out2M base w ⟨none, 0, 0⟩ [] ⟨none, 0, 0⟩ [] :=
  ⟨⟨[], [], RowsD.nil _ _ _ _, RowsD.nil _ _ _ _, fun b hb => (by
    rcases hb with hb | ⟨r, hr, _⟩
    · cases hb
    · cases hr)⟩, by simp, by simp, by simp, by simp, by simp, by simp⟩
theorem Out2M.low {base b : Nat} {w : World} {s s' : Sl} {L L' : List (List Int)} (h : Out2M base w s L s' L') (hb : b ≤ base) : Out2M b w s L s' L' := by
  obtain ⟨ss, ss', h1, h2, h3⟩ := h.ex
  exact ⟨⟨ss, ss', ⟨h1.own.low hb, h1.len, fun i r l hr hl => (h1.row i r l hr hl).low hb, h1.apart⟩, ⟨h2.own.low hb, h2.len, fun i r l hr hl => (h2.row i r l hr hl).low hb, h2.apart⟩, h3⟩, h.i64, h.rows, h.small, h.i64', h.rows', h.small'⟩
theorem Out2M.rep {base : Nat} {w : World} {s s' : Sl} {L L' : List (List Int)} (h : Out2M base w s L s' L') : R w s L := by
  obtain ⟨ss, ss', h1, _, _⟩ := h.ex
  exact h1.rep h.i64
theorem MIntSS.chg {w w' : World} {s : Sl} {lo hi : Nat} (h : MIntSS w s lo hi) (hS : Shp w w') {l2 h2 : Nat} (hC : Chg w w' (fun b => l2 ≤ b ∧ b < h2)) (hlo : h2 ≤ lo) : MIntSS w' s lo hi := by
  obtain ⟨ss, h1, h3, h4⟩ := h.ex
  exact ⟨ss, h1.chg hC fun b hb hD => by have := (h1.blk b hb).1; have := hD.2; omega, h3, fun r hr => ⟨(h4 r hr).1.shp hS, (h4 r hr).2⟩⟩
theorem MNet.chg {w w' : World} {x y z : Sl} {lo hi : Nat} (h : MNet w x y z lo hi) (hS : Shp w w') {l2 h2 : Nat} (hC : Chg w w' (fun b => l2 ≤ b ∧ b < h2)) (hlo : h2 ≤ lo) : MNet w' x y z lo hi := by
  obtain ⟨⟨ss, h1, h3, h4⟩, h5, h6⟩ := h
  exact ⟨⟨ss, h1.chg hC fun b hb hD => by have := (h1.blk b hb).1; have := hD.2; omega, h3, fun r hr => ⟨(h4 r hr).1.shp hS, (h4 r hr).2⟩⟩, h5.shp hS, h6.shp hS⟩

theorem MIntSS.ext {w w' : World} {s : Sl} {lo hi : Nat} (h : MIntSS w s lo hi) (hE : Ext w w') : MIntSS w' s lo hi := by
  obtain ⟨ss, h1, h3, h4⟩ := h.ex
  exact ⟨ss, h1.ext hE, h3, fun r hr => ⟨(h4 r hr).1.ext hE, (h4 r hr).2⟩⟩

end Go.Proofs.YtcldmpllpfojhaaDoor
end

section
/- The memory of a reader of networks: lists and rows of the call's own, whose blocks have owners; the operations on them. -/
namespace Go.Proofs.YtcldmpllpfojhaaDoor
open Go.GX Go.RowKit
set_option maxRecDepth 100000

/-! ### Owners -/

def upO (own : Nat → Nat) (top i : Nat) : Nat → Nat := fun b => if b < top then own b else i
theorem upO_lt {own : Nat → Nat} {top i b : Nat} (h : b < top) : upO own top i b = own b := if_pos h
theorem upO_ge {own : Nat → Nat} {top i b : Nat} (h : ¬ b < top) : upO own top i b = i := if_neg h

/-- A list of the call's own whose blocks have one owner. -/
structure OL {α : Type} [Flat α] (e : TypeId) (own : Nat → Nat) (i base : Nat) (w : World) (s : Sl) (l : List α) : Prop where
  mem : OwnL w base e s l
  blk : ∀ b, oB s b → own b = i
  ok : ∀ x ∈ l, Flat.ok x
/-- Rows. -/
structure RL {α : Type} [Flat α] (e e' : TypeId) (own : Nat → Nat) (i base : Nat) (w : World) (s : Sl) (L : List (List α)) : Prop where
  ex : ∃ ss : List Sl, RowsD w base e e' s L ss ∧ ∀ b, MB s ss b → own b = i
  ok : ∀ l ∈ L, ∀ x ∈ l, Flat.ok x

section
variable {α : Type} [Flat α] {w w' : World} {base i : Nat} {own own' : Nat → Nat} {e e' : TypeId} {s : Sl} {l : List α} {L : List (List α)} {ss : List Sl} {D : Nat → Prop}

theorem rowsBlk (h : RowsD w base e e' s L ss) {b : Nat} (hb : MB s ss b) : base ≤ b ∧ b < w.heap.size := by
  rcases hb with hb | ⟨r, hr, hb⟩
  · exact h.own.blk b hb
  · obtain ⟨i, hi, rfl⟩ := List.mem_iff_getElem.1 hr
    have hl := h.len
    exact (h.row i ss[i] (L[i]'(by omega)) (by simp [hi]) (by simp)).blk b hb
theorem rowsKeep (h : RowsD w base e e' s L ss) (hk : ∀ b, MB s ss b → w'.heap[b]? = w.heap[b]?) : RowsD w' base e e' s L ss :=
  ⟨h.own.keep fun b hb => hk b (.inl hb), h.len, fun i r l hr hl => (h.row i r l hr hl).keep fun b hb => hk b (.inr ⟨r, List.mem_of_getElem? hr, hb⟩), h.apart⟩

theorem OL.move (h : OL e own i base w s l) (hC : Chg w w' D) (hD : ∀ b, b < w.heap.size → D b → own b ≠ i) (ho : ∀ b, b < w.heap.size → own' b = own b) : OL e own' i base w' s l :=
  ⟨h.mem.chg hC fun b hb hd => hD b (h.mem.blk b hb).2 hd (h.blk b hb), fun b hb => (ho b (h.mem.blk b hb).2).trans (h.blk b hb), h.ok⟩
theorem RL.move (h : RL e e' own i base w s L) (hC : Chg w w' D) (hD : ∀ b, b < w.heap.size → D b → own b ≠ i) (ho : ∀ b, b < w.heap.size → own' b = own b) : RL e e' own' i base w' s L := by
  obtain ⟨ss, h1, h2⟩ := h.ex
  exact ⟨⟨ss, rowsKeep h1 fun b hb => hC.block b (rowsBlk h1 hb).2 fun hd => hD b (rowsBlk h1 hb).2 hd (h2 b hb), fun b hb => (ho b (rowsBlk h1 hb).2).trans (h2 b hb)⟩, h.ok⟩
theorem OL.rep (h : OL e own i base w s l) : R w s l := (h.mem.rep h.ok).any
theorem RL.rep (h : RL e e' own i base w s L) : R w s L := by
  obtain ⟨ss, h1, _⟩ := h.ex
  exact h1.rep h.ok
theorem OL.none (own : Nat → Nat) (w : World) : OL e own i base w ⟨none, 0, 0⟩ ([] : List α) := ⟨OwnL.nil _ _ _, fun b hb => (by cases hb), by simp⟩
theorem RL.none (own : Nat → Nat) (w : World) : RL e e' own i base w ⟨none, 0, 0⟩ ([] : List (List α)) := ⟨⟨[], RowsD.nil _ _ _ _, fun b hb => by
    rcases hb with hb | ⟨r, hr, _⟩
    · cases hb
    · cases hr⟩, by simp⟩

/-- What an operation on the lists of owner i may change. -/
def OD (own : Nat → Nat) (i base top : Nat) (b : Nat) : Prop := own b = i ∧ base ≤ b ∧ b < top

/-- A list grows. -/
theorem OL.app {t : TypeId} {bytes : Nat} {z : Value} (hT : SlT Tryd.prog t e (Rep.sz α) bytes z) (h : OL e own i base w s l) (hb : base ≤ w.heap.size) {y : Sl} {m : List α} {j b1 : Nat} (hy : OL e own j b1 w y m) (hlen : (l.length + m.length) * bytes ≤ 140737488355328) (hmax : l.length + m.length ≤ maxLen) {K : Sl → World → Prop}
    (hk : ∀ s' w', OL e (upO own w.heap.size i) i base w' s' (l ++ m) → Chg w w' (OD own i base w.heap.size) → K s' w') : RUN Tryd.prog (.at .sl) (bsem .append #[t, t] t #[s.v, y.v]) w K := by
  refine RUN_appendF hT h.mem hb hy.rep hlen hmax fun s' w' hO hs hN => hk s' w' ⟨hO, fun b hb' => ?_, fun x hx => ?_⟩ (.of_step hs fun k hk => ⟨h.blk k hk, h.mem.blk k hk⟩)
  · by_cases hbt : b < w.heap.size
    · rw [upO_lt hbt]
      rcases hN with hN | hN
      · exact h.blk b (by unfold oB; rw [← hN]; exact hb')
      · have := hN b hb'; omega
    · exact upO_ge hbt
  · rcases List.mem_append.1 hx with hx | hx
    · exact h.ok x hx
    · exact hy.ok x hx

/-- An element is written. -/
theorem OL.put (h : OL e own i base w s l) {v : Nat} (hv : v < l.length) {p : Addr} (hp : Plc s v (Rep.sz α) p) (x : α) (hx : Flat.ok x) {vs : List Value} (hvs : vs = Flat.cells x) {K : World → Prop}
    (hk : ∀ w', OL e own i base w' s (l.set v x) → Chg w w' (OD own i base w.heap.size) → K w') : GX.ST p 0 vs w K :=
  ST_own h.mem hv hp x hvs fun w' hO hs => hk w' ⟨hO, h.blk, fun y hy => by
    rcases List.mem_or_eq_of_mem_set hy with hy | rfl
    · exact h.ok y hy
    · exact hx⟩ (.of_step hs fun k hk => ⟨h.blk k hk, h.mem.blk k hk⟩)

/-- One more empty row. -/
theorem RL.app {t : TypeId} {bytes : Nat} {z : Value} (hT : SlT Tryd.prog t e' 1 bytes z) (hne : e ≠ e') (h : RL e e' own i base w s L) (hb : base ≤ w.heap.size) {y : Sl} {j b1 : Nat} (hy : OL e' own j b1 w y [(⟨.none, 0, 0⟩ : Sl)]) (hlen : (L.length + 1) * bytes ≤ 140737488355328) (hmax : L.length + 1 ≤ maxLen) {K : Sl → World → Prop}
    (hk : ∀ s' w', RL e e' (upO own w.heap.size i) i base w' s' (L ++ [[]]) → Chg w w' (OD own i base w.heap.size) → K s' w') : RUN Tryd.prog (.at .sl) (bsem .append #[t, t] t #[s.v, y.v]) w K := by
  obtain ⟨ss, h1, h2⟩ := h.ex
  refine RUN_append_rowDF hT hne h1 hb (OwnL.nil w base e) (fun j q _ k _ hk => by cases hk) hy.mem hlen hmax fun s' w' hR hs hN => hk s' w' ⟨⟨_, hR, fun b hb' => ?_⟩, fun r hr => ?_⟩ (.of_step hs fun k hk => ⟨h2 k (.inl hk), h1.own.blk k hk⟩)
  · by_cases hbt : b < w.heap.size
    · rw [upO_lt hbt]
      rcases hb' with hb' | ⟨r, hr, hb'⟩
      · rcases hN with hN | hN
        · exact h2 b (.inl (by rw [← hN]; exact hb'))
        · have := hN b hb'; omega
      · rcases List.mem_append.1 hr with hr | hr
        · exact h2 b (.inr ⟨r, hr, hb'⟩)
        · rw [List.mem_singleton.1 hr] at hb'; cases hb'
    · exact upO_ge hbt
  · rcases List.mem_append.1 hr with hr | hr
    · exact h.ok r hr
    · rw [List.mem_singleton.1 hr]; simp

/-- A row grows: the literal, append, the place in the list of rows, the store. -/
theorem RL.snoc {t : TypeId} {bytes : Nat} {z vx : Value} (hT : SlT Tryd.prog t e (Rep.sz α) bytes z) (hsz : bytes ≤ 1000) (hs1 : Rep.sz α ≤ 1000) (hne : e ≠ e') (h1 : RowsD w base e e' s L ss) (h2 : ∀ b, MB s ss b → own b = i) (hok : ∀ l ∈ L, ∀ x ∈ l, Flat.ok x) (hb : base ≤ w.heap.size) {v : Nat} {l : List α} (hl : L[v]? = some l) {r : Sl} (hr : ss[v]? = some r)
    (hlen : l.length ≤ 100) (x : α) (hx : Flat.ok x) (hvx : vx.cells.toList = Flat.cells x) {K : World → Prop}
    (hk : ∀ w', RL e e' (upO own w.heap.size i) i base w' s (L.set v (l ++ [x])) → Chg w w' (OD own i base w.heap.size) → K w') :
    RUN Tryd.prog (.at .sl) (Instr.buildSlice t 1 #[(0, vx)]) w fun y1 w1 => Chg w w1 (oB r) ∧ (RUN Tryd.prog (.at .sl) (bsem .append #[t, t] t #[r.v, y1.v]) w1 fun r' w2 => Chg w w2 (oB r) ∧ (IX s (v : Int) 1 fun p => GX.ST p 0 [r'.v] w2 K)) := by
  refine RUN_lit1 hT x hvx hs1 fun y1 w1 hE1 hO1 => ⟨.of_ext hE1, ?_⟩
  have g1 := h1.ext hE1
  have hz1 := hE1.size_le
  have hv : v < L.length := (List.getElem?_eq_some_iff.1 hl).1
  have hO := g1.row v r l hr hl
  have hbl := h1.row v r l hr hl
  have hbytes : (l.length + 1) * bytes ≤ 140737488355328 := by
    have := Nat.mul_le_mul (show l.length + 1 ≤ 101 by omega) hsz
    omega
  refine RUN_appendF hT hO (Nat.le_trans hb hz1) (hO1.rep (by intro z hz; rw [List.mem_singleton.1 hz]; exact hx)).any (by simpa using hbytes) (by simp [maxLen]; omega) fun r' w2 hO2 hs2 hn2 => ?_
  have hc2 : Chg w w2 (oB r) := (Chg.of_ext hE1).trans (.of_step hs2 fun k hk => hk)
  refine ⟨hc2, ?_⟩
  have hR2 : OwnL w2 base e' s ss := g1.own.keep fun k hk => hs2.block k (g1.own.blk k hk).2 fun he => g1.block_ne hne hr he.symm hk
  refine IX_own hR2 (by rw [h1.len]; exact hv) rfl fun p hp => ?_
  refine g1.put hne hv hr hO2 hs2 hn2 hp fun w3 hR3 hs3 => hk w3 ⟨⟨ss.set v r', hR3, fun b hb' => ?_⟩, fun q hq => ?_⟩ ?_
  · by_cases hbt : b < w.heap.size
    · rw [upO_lt hbt]
      rcases hb' with hb' | ⟨q, hq, hb'⟩
      · exact h2 b (.inl hb')
      · rcases List.mem_or_eq_of_mem_set hq with hq | rfl
        · exact h2 b (.inr ⟨q, hq, hb'⟩)
        · rcases hn2 with hn2 | hn2
          · rw [hn2] at hb'
            exact h2 b (.inr ⟨r, List.mem_of_getElem? hr, hb'⟩)
          · have := hn2 b hb'; omega
    · exact upO_ge hbt
  · rcases List.mem_or_eq_of_mem_set hq with hq | rfl
    · exact hok q hq
    · intro y hy
      rcases List.mem_append.1 hy with hy | hy
      · exact hok l (List.mem_of_getElem? hl) y hy
      · rw [List.mem_singleton.1 hy]; exact hx
  · refine (hc2.mono fun k hk => ?_).trans (.of_step hs3 fun k hk => ?_)
    · exact ⟨h2 k (.inr ⟨r, List.mem_of_getElem? hr, hk⟩), hbl.blk k hk⟩
    · exact ⟨h2 k (.inl hk), h1.own.blk k hk⟩
end

/-! ### The state of a reader -/

structure RdS where
  x : Sl
  E : List (List (Int × Int))
  y : Sl
  I : List Int
  z : Sl
  N : List Int
  f : Sl
  H : List Int
  g : Sl
  G : List Int
  p : Sl
  P : List (List Int)

/-- .. with owners; literals wait with owner 9, what else must stay has owner 7. -/
structure Rd (own : Nat → Nat) (X : Nat → Prop) (base : Nat) (w : World) (S : RdS) (li : List (Sl × Int)) (le lp : List Sl) : Prop where
  ends : RL T.t_i_End T.t_sl_i_End own 0 base w S.x S.E
  ids : OL T.t_int own 1 base w S.y S.I
  inp : OL T.t_int own 2 base w S.z S.N
  fs : OL T.t_int own 3 base w S.f S.H
  gs : OL T.t_int own 4 base w S.g S.G
  ports : RL T.t_int T.t_sl_int own 5 base w S.p S.P
  box : ∀ b, X b → own b = 7 ∧ b < w.heap.size
  bs : base ≤ w.heap.size
  lit : ∀ q ∈ li, OL T.t_int own 9 base w q.1 [q.2]
  lite : ∀ q ∈ le, OL T.t_sl_i_End own 9 base w q [(⟨none, 0, 0⟩ : Sl)]
  litp : ∀ q ∈ lp, OL T.t_sl_int own 9 base w q [(⟨none, 0, 0⟩ : Sl)]

def St (X : Nat → Prop) (base : Nat) (w : World) (S : RdS) (li : List (Sl × Int)) (le lp : List Sl) : Prop := ∃ own, Rd own X base w S li le lp
/-- What the operations may change. -/
def DX (X : Nat → Prop) (base : Nat) (b : Nat) : Prop := ¬ X b ∧ base ≤ b

section
variable {X X' : Nat → Prop} {base : Nat} {w w' w0 : World} {S : RdS} {li : List (Sl × Int)} {le lp : List Sl} {own : Nat → Nat}

theorem Rd.dx (h : Rd own X base w S li le lp) {i : Nat} (hi : i ≠ 7) (hC : Chg w w' (OD own i base w.heap.size)) : Chg w w' (DX X base) :=
  hC.mono fun b hb => ⟨fun hx => hi (hb.1.symm.trans (h.box b hx).1), hb.2.1⟩

theorem St.grow (h : St X base w S li le lp) (hE : Ext w w') (hX : ∀ b, X' b → X b ∨ (w.heap.size ≤ b ∧ b < w'.heap.size)) : St X' base w' S li le lp := by
  obtain ⟨own, h⟩ := h
  have hC : Chg w w' (fun _ => False) := .of_ext hE
  have ho : ∀ b, b < w.heap.size → upO own w.heap.size 7 b = own b := fun b hb => upO_lt hb
  have hD : ∀ (i b : Nat), b < w.heap.size → False → own b ≠ i := fun _ _ _ hf => hf.elim
  have hz := hE.size_le
  refine ⟨upO own w.heap.size 7, ⟨h.ends.move hC (hD _) ho, h.ids.move hC (hD _) ho, h.inp.move hC (hD _) ho, h.fs.move hC (hD _) ho, h.gs.move hC (hD _) ho, h.ports.move hC (hD _) ho, fun b hb => ?_, Nat.le_trans h.bs hz,
    fun q hq => (h.lit q hq).move hC (hD _) ho, fun q hq => (h.lite q hq).move hC (hD _) ho, fun q hq => (h.litp q hq).move hC (hD _) ho⟩⟩
  rcases hX b hb with hb | ⟨h1, h2⟩
  · obtain ⟨h3, h4⟩ := h.box b hb
    exact ⟨(upO_lt h4).trans h3, by omega⟩
  · exact ⟨upO_ge (by omega), h2⟩
theorem St.ext (h : St X base w S li le lp) (hE : Ext w w') : St X base w' S li le lp := h.grow hE fun _ hb => .inl hb
theorem St.less (h : St X base w S li le lp) (hX : ∀ b, X' b → X b) : St X' base w S li le lp := h.grow (Ext.refl w) fun b hb => .inl (hX b hb)
theorem St.drop (h : St X base w S li le lp) : St X base w S [] [] [] := by
  obtain ⟨own, h⟩ := h
  exact ⟨own, ⟨h.ends, h.ids, h.inp, h.fs, h.gs, h.ports, h.box, h.bs, by simp, by simp, by simp⟩⟩
theorem St.bs (h : St X base w S li le lp) : base ≤ w.heap.size := by obtain ⟨_, h⟩ := h; exact h.bs

/-- What must stay is written by its owner. -/
theorem St.other (h : St X base w S li le lp) {D : Nat → Prop} (hC : Chg w w' D) (hD : ∀ b, D b → X b) : St X base w' S li le lp := by
  obtain ⟨own, h⟩ := h
  have hne : ∀ i, i ≠ 7 → ∀ b, b < w.heap.size → D b → own b ≠ i := fun i hi b _ hd he => hi (he.symm.trans (h.box b (hD b hd)).1)
  have ho : ∀ b, b < w.heap.size → own b = own b := fun _ _ => rfl
  have hz := hC.size
  exact ⟨own, ⟨h.ends.move hC (hne _ (by decide)) ho, h.ids.move hC (hne _ (by decide)) ho, h.inp.move hC (hne _ (by decide)) ho, h.fs.move hC (hne _ (by decide)) ho, h.gs.move hC (hne _ (by decide)) ho, h.ports.move hC (hne _ (by decide)) ho, fun b hb => ⟨(h.box b hb).1, Nat.lt_of_lt_of_le (h.box b hb).2 hz⟩, Nat.le_trans h.bs hz,
    fun q hq => (h.lit q hq).move hC (hne _ (by decide)) ho, fun q hq => (h.lite q hq).move hC (hne _ (by decide)) ho, fun q hq => (h.litp q hq).move hC (hne _ (by decide)) ho⟩⟩

/-- A cell of a variable that must stay. -/
theorem St.box1 (h : St X base w S li le lp) {p : Addr} {t : TypeId} {cs : List Value} {i : Nat} {v : Value} (hb : Box w p t cs) (hX : X p.block) (hi : i < cs.length) (h1 : v.oneCell' = true) {K : World → Prop}
    (hk : ∀ w', St X base w' S li le lp → Chg w w' (fun b => b = p.block) → Box w' p t (cs.set i v) → K w') : GX.ST (p.add i) 0 [v] w K := by
  refine ⟨h1, ⟨cs[i], ?_⟩, ?_, ?_⟩
  · rw [add_add]; exact hb.cell (by simp [hi])
  · rw [add_add]; exact hb.frozen _
  · have hs : Step w (w.setCell ((p.add i).add 0) v) (some p.block) := ⟨rfl, rfl, rfl, by rw [setCell_size]; exact Nat.le_refl _, fun k _ hne => setCell_other _ _ _ (by rw [add_add, add_block]; intro he; exact hne (by rw [he]))⟩
    have hC : Chg w (w.setCell ((p.add i).add 0) v) (fun b => b = p.block) := .of_step hs fun k hk => by cases hk; rfl
    exact hk _ (h.other hC fun b hb' => by rw [hb']; exact hX) hC (by rw [add_add]; exact hb.set _ v)

theorem St.litI (h : St X base w S li le lp) (n : Int) (hn : I64 n) (hC0 : Chg w0 w (DX X base)) {K : Sl → World → Prop}
    (hk : ∀ s w', St X base w' S ((s, n) :: li) le lp → Chg w0 w' (DX X base) → K s w') : RUN Tryd.prog (.at .sl) (Instr.buildSlice T.t_sl_int 1 #[(0, .int .i64 n)]) w fun s w' => Chg w0 w' (DX X base) ∧ K s w' := by
  obtain ⟨own, h⟩ := h
  refine RUN_lit1 (α := Int) slt_int n rfl (by decide) fun s w' hE hO => ?_
  have hC : Chg w w' (fun _ => False) := .of_ext hE
  have ho : ∀ b, b < w.heap.size → upO own w.heap.size 9 b = own b := fun b hb => upO_lt hb
  have hD : ∀ (i b : Nat), b < w.heap.size → False → own b ≠ i := fun _ _ _ hf => hf.elim
  have hz := hE.size_le
  have hnew : OL _ (upO own w.heap.size 9) 9 base w' s _ := ⟨hO.low h.bs, fun b hb => upO_ge (by have := (hO.blk b hb).1; omega), fun x hx => by rw [List.mem_singleton.1 hx]; exact hn⟩
  have old1 : ∀ q ∈ li, OL T.t_int (upO own w.heap.size 9) 9 base w' q.1 [q.2] := fun q hq => (h.lit q hq).move hC (hD _) ho
  have old2 : ∀ q ∈ le, OL T.t_sl_i_End (upO own w.heap.size 9) 9 base w' q [(⟨none, 0, 0⟩ : Sl)] := fun q hq => (h.lite q hq).move hC (hD _) ho
  have old3 : ∀ q ∈ lp, OL T.t_sl_int (upO own w.heap.size 9) 9 base w' q [(⟨none, 0, 0⟩ : Sl)] := fun q hq => (h.litp q hq).move hC (hD _) ho
  have hfin := hC0.trans (Chg.of_ext hE)
  refine ⟨hfin, hk s w' ⟨_, ⟨h.ends.move hC (hD _) ho, h.ids.move hC (hD _) ho, h.inp.move hC (hD _) ho, h.fs.move hC (hD _) ho, h.gs.move hC (hD _) ho, h.ports.move hC (hD _) ho, fun b hb => ⟨(upO_lt (h.box b hb).2).trans (h.box b hb).1, Nat.lt_of_lt_of_le (h.box b hb).2 hz⟩, Nat.le_trans h.bs hz, ?_, ?_, ?_⟩⟩ hfin⟩
  · first | exact old1 | (intro q hq; rcases List.mem_cons.1 hq with rfl | hq; (· exact hnew); exact old1 q hq)
  · first | exact old2 | (intro q hq; rcases List.mem_cons.1 hq with rfl | hq; (· exact hnew); exact old2 q hq)
  · first | exact old3 | (intro q hq; rcases List.mem_cons.1 hq with rfl | hq; (· exact hnew); exact old3 q hq)

theorem St.litE (h : St X base w S li le lp)  (hC0 : Chg w0 w (DX X base)) {K : Sl → World → Prop}
    (hk : ∀ s w', St X base w' S li (s :: le) lp → Chg w0 w' (DX X base) → K s w') : RUN Tryd.prog (.at .sl) (Instr.buildSlice T.t_sl_sl_i_End 1 #[(0, .slice none 0 0)]) w fun s w' => Chg w0 w' (DX X base) ∧ K s w' := by
  obtain ⟨own, h⟩ := h
  refine RUN_lit1 (α := Sl) slt_ends ⟨none, 0, 0⟩ rfl (by decide) fun s w' hE hO => ?_
  have hC : Chg w w' (fun _ => False) := .of_ext hE
  have ho : ∀ b, b < w.heap.size → upO own w.heap.size 9 b = own b := fun b hb => upO_lt hb
  have hD : ∀ (i b : Nat), b < w.heap.size → False → own b ≠ i := fun _ _ _ hf => hf.elim
  have hz := hE.size_le
  have hnew : OL _ (upO own w.heap.size 9) 9 base w' s _ := ⟨hO.low h.bs, fun b hb => upO_ge (by have := (hO.blk b hb).1; omega), fun x hx => by rw [List.mem_singleton.1 hx]; exact trivial⟩
  have old1 : ∀ q ∈ li, OL T.t_int (upO own w.heap.size 9) 9 base w' q.1 [q.2] := fun q hq => (h.lit q hq).move hC (hD _) ho
  have old2 : ∀ q ∈ le, OL T.t_sl_i_End (upO own w.heap.size 9) 9 base w' q [(⟨none, 0, 0⟩ : Sl)] := fun q hq => (h.lite q hq).move hC (hD _) ho
  have old3 : ∀ q ∈ lp, OL T.t_sl_int (upO own w.heap.size 9) 9 base w' q [(⟨none, 0, 0⟩ : Sl)] := fun q hq => (h.litp q hq).move hC (hD _) ho
  have hfin := hC0.trans (Chg.of_ext hE)
  refine ⟨hfin, hk s w' ⟨_, ⟨h.ends.move hC (hD _) ho, h.ids.move hC (hD _) ho, h.inp.move hC (hD _) ho, h.fs.move hC (hD _) ho, h.gs.move hC (hD _) ho, h.ports.move hC (hD _) ho, fun b hb => ⟨(upO_lt (h.box b hb).2).trans (h.box b hb).1, Nat.lt_of_lt_of_le (h.box b hb).2 hz⟩, Nat.le_trans h.bs hz, ?_, ?_, ?_⟩⟩ hfin⟩
  · first | exact old1 | (intro q hq; rcases List.mem_cons.1 hq with rfl | hq; (· exact hnew); exact old1 q hq)
  · first | exact old2 | (intro q hq; rcases List.mem_cons.1 hq with rfl | hq; (· exact hnew); exact old2 q hq)
  · first | exact old3 | (intro q hq; rcases List.mem_cons.1 hq with rfl | hq; (· exact hnew); exact old3 q hq)

theorem St.litP (h : St X base w S li le lp)  (hC0 : Chg w0 w (DX X base)) {K : Sl → World → Prop}
    (hk : ∀ s w', St X base w' S li le (s :: lp) → Chg w0 w' (DX X base) → K s w') : RUN Tryd.prog (.at .sl) (Instr.buildSlice T.t_sl_sl_int 1 #[(0, .slice none 0 0)]) w fun s w' => Chg w0 w' (DX X base) ∧ K s w' := by
  obtain ⟨own, h⟩ := h
  refine RUN_lit1 (α := Sl) slt_rows ⟨none, 0, 0⟩ rfl (by decide) fun s w' hE hO => ?_
  have hC : Chg w w' (fun _ => False) := .of_ext hE
  have ho : ∀ b, b < w.heap.size → upO own w.heap.size 9 b = own b := fun b hb => upO_lt hb
  have hD : ∀ (i b : Nat), b < w.heap.size → False → own b ≠ i := fun _ _ _ hf => hf.elim
  have hz := hE.size_le
  have hnew : OL _ (upO own w.heap.size 9) 9 base w' s _ := ⟨hO.low h.bs, fun b hb => upO_ge (by have := (hO.blk b hb).1; omega), fun x hx => by rw [List.mem_singleton.1 hx]; exact trivial⟩
  have old1 : ∀ q ∈ li, OL T.t_int (upO own w.heap.size 9) 9 base w' q.1 [q.2] := fun q hq => (h.lit q hq).move hC (hD _) ho
  have old2 : ∀ q ∈ le, OL T.t_sl_i_End (upO own w.heap.size 9) 9 base w' q [(⟨none, 0, 0⟩ : Sl)] := fun q hq => (h.lite q hq).move hC (hD _) ho
  have old3 : ∀ q ∈ lp, OL T.t_sl_int (upO own w.heap.size 9) 9 base w' q [(⟨none, 0, 0⟩ : Sl)] := fun q hq => (h.litp q hq).move hC (hD _) ho
  have hfin := hC0.trans (Chg.of_ext hE)
  refine ⟨hfin, hk s w' ⟨_, ⟨h.ends.move hC (hD _) ho, h.ids.move hC (hD _) ho, h.inp.move hC (hD _) ho, h.fs.move hC (hD _) ho, h.gs.move hC (hD _) ho, h.ports.move hC (hD _) ho, fun b hb => ⟨(upO_lt (h.box b hb).2).trans (h.box b hb).1, Nat.lt_of_lt_of_le (h.box b hb).2 hz⟩, Nat.le_trans h.bs hz, ?_, ?_, ?_⟩⟩ hfin⟩
  · first | exact old1 | (intro q hq; rcases List.mem_cons.1 hq with rfl | hq; (· exact hnew); exact old1 q hq)
  · first | exact old2 | (intro q hq; rcases List.mem_cons.1 hq with rfl | hq; (· exact hnew); exact old2 q hq)
  · first | exact old3 | (intro q hq; rcases List.mem_cons.1 hq with rfl | hq; (· exact hnew); exact old3 q hq)
end
end Go.Proofs.YtcldmpllpfojhaaDoor
end

section
/- The memory of a reader of networks: lists that grow, elements and rows that are written. -/
namespace Go.Proofs.YtcldmpllpfojhaaDoor
open Go.GX Go.RowKit
set_option maxRecDepth 100000

section
variable {X : Nat → Prop} {base : Nat} {w w' w0 : World} {S : RdS} {li : List (Sl × Int)} {le lp : List Sl}

theorem up_lt' {own : Nat → Nat} {w : World} {i : Nat} : ∀ b, b < w.heap.size → upO own w.heap.size i b = own b := fun _ hb => upO_lt hb
theorem od_ne {own : Nat → Nat} {w : World} {i j base : Nat} (hij : i ≠ j) : ∀ b, b < w.heap.size → OD own i base w.heap.size b → own b ≠ j := fun _ _ hd he => hij (hd.1.symm.trans he)

theorem St.appY (h : St X base w S li le lp) {y1 : Sl} {n : Int} (hy : (y1, n) ∈ li) (hl : S.I.length ≤ 1000) (hC0 : Chg w0 w (DX X base)) {K : Sl → World → Prop}
    (hk : ∀ s' w', St X base w' { S with y := s', I := S.I ++ [n] } li le lp → Chg w0 w' (DX X base) → K s' w') : RUN Tryd.prog (.at .sl) (bsem .append #[T.t_sl_int, T.t_sl_int] T.t_sl_int #[S.y.v, y1.v]) w fun s' w' => Chg w0 w' (DX X base) ∧ K s' w' := by
  obtain ⟨own, h⟩ := h
  refine h.ids.app slt_int h.bs (h.lit _ hy) (by simp only [List.length_singleton]; omega) (by simp only [List.length_singleton]; unfold maxLen; omega) fun s' w' hO hC => ?_
  have mI : ∀ {e : TypeId} {j : Nat} {s : Sl} {l : List Int}, OL e own j base w s l → 1 ≠ j → OL e (upO own w.heap.size 1) j base w' s l := fun hx hj => hx.move hC (od_ne hj) up_lt'
  have mS : ∀ {e : TypeId} {j : Nat} {s : Sl} {l : List Sl}, OL e own j base w s l → 1 ≠ j → OL e (upO own w.heap.size 1) j base w' s l := fun hx hj => hx.move hC (od_ne hj) up_lt'
  have hfin := hC0.trans (h.dx (by decide) hC)
  have hz := hC.size
  exact ⟨hfin, hk s' w' ⟨_, ⟨h.ends.move hC (od_ne (by decide)) up_lt', hO, mI h.inp (by decide), mI h.fs (by decide), mI h.gs (by decide), h.ports.move hC (od_ne (by decide)) up_lt', fun b hb => ⟨(upO_lt (h.box b hb).2).trans (h.box b hb).1, Nat.lt_of_lt_of_le (h.box b hb).2 hz⟩, Nat.le_trans h.bs hz,
    fun q hq => mI (h.lit q hq) (by decide), fun q hq => mS (h.lite q hq) (by decide), fun q hq => mS (h.litp q hq) (by decide)⟩⟩ hfin⟩

theorem St.appZ (h : St X base w S li le lp) {y1 : Sl} {n : Int} (hy : (y1, n) ∈ li) (hl : S.N.length ≤ 1000) (hC0 : Chg w0 w (DX X base)) {K : Sl → World → Prop}
    (hk : ∀ s' w', St X base w' { S with z := s', N := S.N ++ [n] } li le lp → Chg w0 w' (DX X base) → K s' w') : RUN Tryd.prog (.at .sl) (bsem .append #[T.t_sl_int, T.t_sl_int] T.t_sl_int #[S.z.v, y1.v]) w fun s' w' => Chg w0 w' (DX X base) ∧ K s' w' := by
  obtain ⟨own, h⟩ := h
  refine h.inp.app slt_int h.bs (h.lit _ hy) (by simp only [List.length_singleton]; omega) (by simp only [List.length_singleton]; unfold maxLen; omega) fun s' w' hO hC => ?_
  have mI : ∀ {e : TypeId} {j : Nat} {s : Sl} {l : List Int}, OL e own j base w s l → 2 ≠ j → OL e (upO own w.heap.size 2) j base w' s l := fun hx hj => hx.move hC (od_ne hj) up_lt'
  have mS : ∀ {e : TypeId} {j : Nat} {s : Sl} {l : List Sl}, OL e own j base w s l → 2 ≠ j → OL e (upO own w.heap.size 2) j base w' s l := fun hx hj => hx.move hC (od_ne hj) up_lt'
  have hfin := hC0.trans (h.dx (by decide) hC)
  have hz := hC.size
  exact ⟨hfin, hk s' w' ⟨_, ⟨h.ends.move hC (od_ne (by decide)) up_lt', mI h.ids (by decide), hO, mI h.fs (by decide), mI h.gs (by decide), h.ports.move hC (od_ne (by decide)) up_lt', fun b hb => ⟨(upO_lt (h.box b hb).2).trans (h.box b hb).1, Nat.lt_of_lt_of_le (h.box b hb).2 hz⟩, Nat.le_trans h.bs hz,
    fun q hq => mI (h.lit q hq) (by decide), fun q hq => mS (h.lite q hq) (by decide), fun q hq => mS (h.litp q hq) (by decide)⟩⟩ hfin⟩

theorem St.appF (h : St X base w S li le lp) {y1 : Sl} {n : Int} (hy : (y1, n) ∈ li) (hl : S.H.length ≤ 1000) (hC0 : Chg w0 w (DX X base)) {K : Sl → World → Prop}
    (hk : ∀ s' w', St X base w' { S with f := s', H := S.H ++ [n] } li le lp → Chg w0 w' (DX X base) → K s' w') : RUN Tryd.prog (.at .sl) (bsem .append #[T.t_sl_int, T.t_sl_int] T.t_sl_int #[S.f.v, y1.v]) w fun s' w' => Chg w0 w' (DX X base) ∧ K s' w' := by
  obtain ⟨own, h⟩ := h
  refine h.fs.app slt_int h.bs (h.lit _ hy) (by simp only [List.length_singleton]; omega) (by simp only [List.length_singleton]; unfold maxLen; omega) fun s' w' hO hC => ?_
  have mI : ∀ {e : TypeId} {j : Nat} {s : Sl} {l : List Int}, OL e own j base w s l → 3 ≠ j → OL e (upO own w.heap.size 3) j base w' s l := fun hx hj => hx.move hC (od_ne hj) up_lt'
  have mS : ∀ {e : TypeId} {j : Nat} {s : Sl} {l : List Sl}, OL e own j base w s l → 3 ≠ j → OL e (upO own w.heap.size 3) j base w' s l := fun hx hj => hx.move hC (od_ne hj) up_lt'
  have hfin := hC0.trans (h.dx (by decide) hC)
  have hz := hC.size
  exact ⟨hfin, hk s' w' ⟨_, ⟨h.ends.move hC (od_ne (by decide)) up_lt', mI h.ids (by decide), mI h.inp (by decide), hO, mI h.gs (by decide), h.ports.move hC (od_ne (by decide)) up_lt', fun b hb => ⟨(upO_lt (h.box b hb).2).trans (h.box b hb).1, Nat.lt_of_lt_of_le (h.box b hb).2 hz⟩, Nat.le_trans h.bs hz,
    fun q hq => mI (h.lit q hq) (by decide), fun q hq => mS (h.lite q hq) (by decide), fun q hq => mS (h.litp q hq) (by decide)⟩⟩ hfin⟩

theorem St.appG (h : St X base w S li le lp) {y1 : Sl} {n : Int} (hy : (y1, n) ∈ li) (hl : S.G.length ≤ 1000) (hC0 : Chg w0 w (DX X base)) {K : Sl → World → Prop}
    (hk : ∀ s' w', St X base w' { S with g := s', G := S.G ++ [n] } li le lp → Chg w0 w' (DX X base) → K s' w') : RUN Tryd.prog (.at .sl) (bsem .append #[T.t_sl_int, T.t_sl_int] T.t_sl_int #[S.g.v, y1.v]) w fun s' w' => Chg w0 w' (DX X base) ∧ K s' w' := by
  obtain ⟨own, h⟩ := h
  refine h.gs.app slt_int h.bs (h.lit _ hy) (by simp only [List.length_singleton]; omega) (by simp only [List.length_singleton]; unfold maxLen; omega) fun s' w' hO hC => ?_
  have mI : ∀ {e : TypeId} {j : Nat} {s : Sl} {l : List Int}, OL e own j base w s l → 4 ≠ j → OL e (upO own w.heap.size 4) j base w' s l := fun hx hj => hx.move hC (od_ne hj) up_lt'
  have mS : ∀ {e : TypeId} {j : Nat} {s : Sl} {l : List Sl}, OL e own j base w s l → 4 ≠ j → OL e (upO own w.heap.size 4) j base w' s l := fun hx hj => hx.move hC (od_ne hj) up_lt'
  have hfin := hC0.trans (h.dx (by decide) hC)
  have hz := hC.size
  exact ⟨hfin, hk s' w' ⟨_, ⟨h.ends.move hC (od_ne (by decide)) up_lt', mI h.ids (by decide), mI h.inp (by decide), mI h.fs (by decide), hO, h.ports.move hC (od_ne (by decide)) up_lt', fun b hb => ⟨(upO_lt (h.box b hb).2).trans (h.box b hb).1, Nat.lt_of_lt_of_le (h.box b hb).2 hz⟩, Nat.le_trans h.bs hz,
    fun q hq => mI (h.lit q hq) (by decide), fun q hq => mS (h.lite q hq) (by decide), fun q hq => mS (h.litp q hq) (by decide)⟩⟩ hfin⟩

theorem St.ixY (h : St X base w S li le lp) {v : Nat} (hv : v < S.I.length) {K : Addr → Prop} (hk : ∀ p, Plc S.y v (Rep.sz Int) p → K p) : IX S.y (v : Int) 1 K := by
  obtain ⟨own, h⟩ := h
  exact IX_own h.ids.mem hv rfl hk

theorem St.ixZ (h : St X base w S li le lp) {v : Nat} (hv : v < S.N.length) {K : Addr → Prop} (hk : ∀ p, Plc S.z v (Rep.sz Int) p → K p) : IX S.z (v : Int) 1 K := by
  obtain ⟨own, h⟩ := h
  exact IX_own h.inp.mem hv rfl hk

theorem St.ixF (h : St X base w S li le lp) {v : Nat} (hv : v < S.H.length) {K : Addr → Prop} (hk : ∀ p, Plc S.f v (Rep.sz Int) p → K p) : IX S.f (v : Int) 1 K := by
  obtain ⟨own, h⟩ := h
  exact IX_own h.fs.mem hv rfl hk

theorem St.stY (h : St X base w S li le lp) {v : Nat} (hv : v < S.I.length) {p : Addr} (hp : Plc S.y v (Rep.sz Int) p) {n : Int} (hn : I64 n) {K : World → Prop}
    (hk : ∀ w', St X base w' { S with I := S.I.set v n } li le lp → Chg w w' (DX X base) → K w') : GX.ST p 0 [.int .i64 n] w K := by
  obtain ⟨own, h⟩ := h
  refine h.ids.put hv hp n hn rfl fun w' hO hC => ?_
  have ho : ∀ b, b < w.heap.size → own b = own b := fun _ _ => rfl
  have mI : ∀ {e : TypeId} {j : Nat} {s : Sl} {l : List Int}, OL e own j base w s l → 1 ≠ j → OL e own j base w' s l := fun hx hj => hx.move hC (od_ne hj) ho
  have mS : ∀ {e : TypeId} {j : Nat} {s : Sl} {l : List Sl}, OL e own j base w s l → 1 ≠ j → OL e own j base w' s l := fun hx hj => hx.move hC (od_ne hj) ho
  have hz := hC.size
  exact hk w' ⟨own, ⟨h.ends.move hC (od_ne (by decide)) ho, hO, mI h.inp (by decide), mI h.fs (by decide), mI h.gs (by decide), h.ports.move hC (od_ne (by decide)) ho, fun b hb => ⟨(h.box b hb).1, Nat.lt_of_lt_of_le (h.box b hb).2 hz⟩, Nat.le_trans h.bs hz,
    fun q hq => mI (h.lit q hq) (by decide), fun q hq => mS (h.lite q hq) (by decide), fun q hq => mS (h.litp q hq) (by decide)⟩⟩ (h.dx (by decide) hC)

theorem St.stZ (h : St X base w S li le lp) {v : Nat} (hv : v < S.N.length) {p : Addr} (hp : Plc S.z v (Rep.sz Int) p) {n : Int} (hn : I64 n) {K : World → Prop}
    (hk : ∀ w', St X base w' { S with N := S.N.set v n } li le lp → Chg w w' (DX X base) → K w') : GX.ST p 0 [.int .i64 n] w K := by
  obtain ⟨own, h⟩ := h
  refine h.inp.put hv hp n hn rfl fun w' hO hC => ?_
  have ho : ∀ b, b < w.heap.size → own b = own b := fun _ _ => rfl
  have mI : ∀ {e : TypeId} {j : Nat} {s : Sl} {l : List Int}, OL e own j base w s l → 2 ≠ j → OL e own j base w' s l := fun hx hj => hx.move hC (od_ne hj) ho
  have mS : ∀ {e : TypeId} {j : Nat} {s : Sl} {l : List Sl}, OL e own j base w s l → 2 ≠ j → OL e own j base w' s l := fun hx hj => hx.move hC (od_ne hj) ho
  have hz := hC.size
  exact hk w' ⟨own, ⟨h.ends.move hC (od_ne (by decide)) ho, mI h.ids (by decide), hO, mI h.fs (by decide), mI h.gs (by decide), h.ports.move hC (od_ne (by decide)) ho, fun b hb => ⟨(h.box b hb).1, Nat.lt_of_lt_of_le (h.box b hb).2 hz⟩, Nat.le_trans h.bs hz,
    fun q hq => mI (h.lit q hq) (by decide), fun q hq => mS (h.lite q hq) (by decide), fun q hq => mS (h.litp q hq) (by decide)⟩⟩ (h.dx (by decide) hC)

theorem St.stF (h : St X base w S li le lp) {v : Nat} (hv : v < S.H.length) {p : Addr} (hp : Plc S.f v (Rep.sz Int) p) {n : Int} (hn : I64 n) {K : World → Prop}
    (hk : ∀ w', St X base w' { S with H := S.H.set v n } li le lp → Chg w w' (DX X base) → K w') : GX.ST p 0 [.int .i64 n] w K := by
  obtain ⟨own, h⟩ := h
  refine h.fs.put hv hp n hn rfl fun w' hO hC => ?_
  have ho : ∀ b, b < w.heap.size → own b = own b := fun _ _ => rfl
  have mI : ∀ {e : TypeId} {j : Nat} {s : Sl} {l : List Int}, OL e own j base w s l → 3 ≠ j → OL e own j base w' s l := fun hx hj => hx.move hC (od_ne hj) ho
  have mS : ∀ {e : TypeId} {j : Nat} {s : Sl} {l : List Sl}, OL e own j base w s l → 3 ≠ j → OL e own j base w' s l := fun hx hj => hx.move hC (od_ne hj) ho
  have hz := hC.size
  exact hk w' ⟨own, ⟨h.ends.move hC (od_ne (by decide)) ho, mI h.ids (by decide), mI h.inp (by decide), hO, mI h.gs (by decide), h.ports.move hC (od_ne (by decide)) ho, fun b hb => ⟨(h.box b hb).1, Nat.lt_of_lt_of_le (h.box b hb).2 hz⟩, Nat.le_trans h.bs hz,
    fun q hq => mI (h.lit q hq) (by decide), fun q hq => mS (h.lite q hq) (by decide), fun q hq => mS (h.litp q hq) (by decide)⟩⟩ (h.dx (by decide) hC)

theorem St.appE (h : St X base w S li le lp) {y1 : Sl} (hy : y1 ∈ le) (hl : S.E.length ≤ 1000) (hC0 : Chg w0 w (DX X base)) {K : Sl → World → Prop}
    (hk : ∀ s' w', St X base w' { S with x := s', E := S.E ++ [[]] } li le lp → Chg w0 w' (DX X base) → K s' w') : RUN Tryd.prog (.at .sl) (bsem .append #[T.t_sl_sl_i_End, T.t_sl_sl_i_End] T.t_sl_sl_i_End #[S.x.v, y1.v]) w fun s' w' => Chg w0 w' (DX X base) ∧ K s' w' := by
  obtain ⟨own, h⟩ := h
  refine h.ends.app slt_ends (by decide) h.bs (h.lite _ hy) (by omega) (by unfold maxLen; omega) fun s' w' hO hC => ?_
  have mI : ∀ {e : TypeId} {j : Nat} {s : Sl} {l : List Int}, OL e own j base w s l → 0 ≠ j → OL e (upO own w.heap.size 0) j base w' s l := fun hx hj => hx.move hC (od_ne hj) up_lt'
  have mS : ∀ {e : TypeId} {j : Nat} {s : Sl} {l : List Sl}, OL e own j base w s l → 0 ≠ j → OL e (upO own w.heap.size 0) j base w' s l := fun hx hj => hx.move hC (od_ne hj) up_lt'
  have hfin := hC0.trans (h.dx (by decide) hC)
  have hz := hC.size
  exact ⟨hfin, hk s' w' ⟨_, ⟨hO, mI h.ids (by decide), mI h.inp (by decide), mI h.fs (by decide), mI h.gs (by decide), h.ports.move hC (od_ne (by decide)) up_lt', fun b hb => ⟨(upO_lt (h.box b hb).2).trans (h.box b hb).1, Nat.lt_of_lt_of_le (h.box b hb).2 hz⟩, Nat.le_trans h.bs hz,
    fun q hq => mI (h.lit q hq) (by decide), fun q hq => mS (h.lite q hq) (by decide), fun q hq => mS (h.litp q hq) (by decide)⟩⟩ hfin⟩

theorem St.appP (h : St X base w S li le lp) {y1 : Sl} (hy : y1 ∈ lp) (hl : S.P.length ≤ 1000) (hC0 : Chg w0 w (DX X base)) {K : Sl → World → Prop}
    (hk : ∀ s' w', St X base w' { S with p := s', P := S.P ++ [[]] } li le lp → Chg w0 w' (DX X base) → K s' w') : RUN Tryd.prog (.at .sl) (bsem .append #[T.t_sl_sl_int, T.t_sl_sl_int] T.t_sl_sl_int #[S.p.v, y1.v]) w fun s' w' => Chg w0 w' (DX X base) ∧ K s' w' := by
  obtain ⟨own, h⟩ := h
  refine h.ports.app slt_rows (by decide) h.bs (h.litp _ hy) (by omega) (by unfold maxLen; omega) fun s' w' hO hC => ?_
  have mI : ∀ {e : TypeId} {j : Nat} {s : Sl} {l : List Int}, OL e own j base w s l → 5 ≠ j → OL e (upO own w.heap.size 5) j base w' s l := fun hx hj => hx.move hC (od_ne hj) up_lt'
  have mS : ∀ {e : TypeId} {j : Nat} {s : Sl} {l : List Sl}, OL e own j base w s l → 5 ≠ j → OL e (upO own w.heap.size 5) j base w' s l := fun hx hj => hx.move hC (od_ne hj) up_lt'
  have hfin := hC0.trans (h.dx (by decide) hC)
  have hz := hC.size
  exact ⟨hfin, hk s' w' ⟨_, ⟨h.ends.move hC (od_ne (by decide)) up_lt', mI h.ids (by decide), mI h.inp (by decide), mI h.fs (by decide), mI h.gs (by decide), hO, fun b hb => ⟨(upO_lt (h.box b hb).2).trans (h.box b hb).1, Nat.lt_of_lt_of_le (h.box b hb).2 hz⟩, Nat.le_trans h.bs hz,
    fun q hq => mI (h.lit q hq) (by decide), fun q hq => mS (h.lite q hq) (by decide), fun q hq => mS (h.litp q hq) (by decide)⟩⟩ hfin⟩

/-- A row grows by one: the row's slice first. -/
theorem St.snocE (h : St X base w S li le lp) {v : Nat} {l : List (Int × Int)} (hl : S.E[v]? = some l) (hlen : l.length ≤ 100) (n : Int × Int) (hn : I64 n.1 ∧ I64 n.2) :
    ∃ (r : Sl) (D : Nat → Prop), (∀ b, X b → ¬ D b) ∧ (∀ (K : Addr → Prop), (∀ p1 : Addr, w.cell? p1 = some r.v → ¬ D p1.block → K p1) → IX S.x (v : Int) 1 K) ∧ r.len = l.length ∧
      (∀ (K : World → Prop), (∀ w', St X base w' { S with E := S.E.set v (l ++ [n]) } li le lp → Chg w w' (DX X base) → K w') →
        Chg w w D ∧ RUN Tryd.prog (.at .sl) (Instr.buildSlice T.t_sl_i_End 1 #[(0, .agg #[.int .i64 n.1, .int .i64 n.2])]) w fun y1 w1 => Chg w w1 D ∧ (RUN Tryd.prog (.at .sl) (bsem .append #[T.t_sl_i_End, T.t_sl_i_End] T.t_sl_i_End #[r.v, y1.v]) w1 fun r' w2 => Chg w w2 D ∧ (IX S.x (v : Int) 1 fun p => GX.ST p 0 [r'.v] w2 K))) := by
  obtain ⟨own, h⟩ := h
  obtain ⟨ss, h1, h2⟩ := h.ends.ex
  have hv : v < S.E.length := (List.getElem?_eq_some_iff.1 hl).1
  have hvs : v < ss.length := by rw [h1.len]; exact hv
  have hr : ss[v]? = some ss[v] := List.getElem?_eq_getElem hvs
  refine ⟨ss[v], oB ss[v], fun b hb hd => ?_, fun K hK => ?_, (h1.row v _ _ hr hl).1, fun K hK => ⟨Chg.refl _ _, ?_⟩⟩
  · have e1 := h2 b (.inr ⟨_, List.mem_of_getElem? hr, hd⟩)
    have e2 := (h.box b hb).1
    omega
  · exact h1.ix hv fun p1 r1 hr1 _ hc1 hb1 => by
      rw [hr] at hr1
      obtain rfl := Option.some.inj hr1
      exact hK p1 hc1 fun hh => h1.block_ne (by decide) hr hh hb1
  · refine RL.snoc slt_end (by decide) (by decide) (by decide) h1 h2 h.ends.ok h.bs hl hr hlen n hn rfl fun w' hO hC => ?_
    have mI : ∀ {e : TypeId} {j : Nat} {s : Sl} {l : List Int}, OL e own j base w s l → 0 ≠ j → OL e (upO own w.heap.size 0) j base w' s l := fun hx hj => hx.move hC (od_ne hj) up_lt'
    have mS : ∀ {e : TypeId} {j : Nat} {s : Sl} {l : List Sl}, OL e own j base w s l → 0 ≠ j → OL e (upO own w.heap.size 0) j base w' s l := fun hx hj => hx.move hC (od_ne hj) up_lt'
    have hz := hC.size
    exact hK w' ⟨_, ⟨hO, mI h.ids (by decide), mI h.inp (by decide), mI h.fs (by decide), mI h.gs (by decide), h.ports.move hC (od_ne (by decide)) up_lt', fun b hb => ⟨(upO_lt (h.box b hb).2).trans (h.box b hb).1, Nat.lt_of_lt_of_le (h.box b hb).2 hz⟩, Nat.le_trans h.bs hz,
      fun q hq => mI (h.lit q hq) (by decide), fun q hq => mS (h.lite q hq) (by decide), fun q hq => mS (h.litp q hq) (by decide)⟩⟩ (h.dx (by decide) hC)

/-- A row is looked up. -/
theorem St.rowE (h : St X base w S li le lp) {v : Nat} {l : List (Int × Int)} (hl : S.E[v]? = some l) {K : Addr → Prop} (hk : ∀ (p1 : Addr) (r : Sl), w.cell? p1 = some r.v → R w r l → K p1) : IX S.x (v : Int) 1 K := by
  obtain ⟨own, h⟩ := h
  have hv : v < S.E.length := (List.getElem?_eq_some_iff.1 hl).1
  have e : S.E[v] = l := by rw [List.getElem?_eq_getElem hv] at hl; exact Option.some.inj hl
  refine h.ends.rep.ixL hv fun p1 r hr hc => hk p1 r hc ?_
  rw [← e]; exact hr

/-- A row grows by one: the row's slice first. -/
theorem St.snocP (h : St X base w S li le lp) {v : Nat} {l : List (Int)} (hl : S.P[v]? = some l) (hlen : l.length ≤ 100) (n : Int) (hn : I64 n) :
    ∃ (r : Sl) (D : Nat → Prop), (∀ b, X b → ¬ D b) ∧ (∀ (K : Addr → Prop), (∀ p1 : Addr, w.cell? p1 = some r.v → ¬ D p1.block → K p1) → IX S.p (v : Int) 1 K) ∧ r.len = l.length ∧
      (∀ (K : World → Prop), (∀ w', St X base w' { S with P := S.P.set v (l ++ [n]) } li le lp → Chg w w' (DX X base) → K w') →
        Chg w w D ∧ RUN Tryd.prog (.at .sl) (Instr.buildSlice T.t_sl_int 1 #[(0, .int .i64 n)]) w fun y1 w1 => Chg w w1 D ∧ (RUN Tryd.prog (.at .sl) (bsem .append #[T.t_sl_int, T.t_sl_int] T.t_sl_int #[r.v, y1.v]) w1 fun r' w2 => Chg w w2 D ∧ (IX S.p (v : Int) 1 fun p => GX.ST p 0 [r'.v] w2 K))) := by
  obtain ⟨own, h⟩ := h
  obtain ⟨ss, h1, h2⟩ := h.ports.ex
  have hv : v < S.P.length := (List.getElem?_eq_some_iff.1 hl).1
  have hvs : v < ss.length := by rw [h1.len]; exact hv
  have hr : ss[v]? = some ss[v] := List.getElem?_eq_getElem hvs
  refine ⟨ss[v], oB ss[v], fun b hb hd => ?_, fun K hK => ?_, (h1.row v _ _ hr hl).1, fun K hK => ⟨Chg.refl _ _, ?_⟩⟩
  · have e1 := h2 b (.inr ⟨_, List.mem_of_getElem? hr, hd⟩)
    have e2 := (h.box b hb).1
    omega
  · exact h1.ix hv fun p1 r1 hr1 _ hc1 hb1 => by
      rw [hr] at hr1
      obtain rfl := Option.some.inj hr1
      exact hK p1 hc1 fun hh => h1.block_ne (by decide) hr hh hb1
  · refine RL.snoc slt_int (by decide) (by decide) (by decide) h1 h2 h.ports.ok h.bs hl hr hlen n hn rfl fun w' hO hC => ?_
    have mI : ∀ {e : TypeId} {j : Nat} {s : Sl} {l : List Int}, OL e own j base w s l → 5 ≠ j → OL e (upO own w.heap.size 5) j base w' s l := fun hx hj => hx.move hC (od_ne hj) up_lt'
    have mS : ∀ {e : TypeId} {j : Nat} {s : Sl} {l : List Sl}, OL e own j base w s l → 5 ≠ j → OL e (upO own w.heap.size 5) j base w' s l := fun hx hj => hx.move hC (od_ne hj) up_lt'
    have hz := hC.size
    exact hK w' ⟨_, ⟨h.ends.move hC (od_ne (by decide)) up_lt', mI h.ids (by decide), mI h.inp (by decide), mI h.fs (by decide), mI h.gs (by decide), hO, fun b hb => ⟨(upO_lt (h.box b hb).2).trans (h.box b hb).1, Nat.lt_of_lt_of_le (h.box b hb).2 hz⟩, Nat.le_trans h.bs hz,
      fun q hq => mI (h.lit q hq) (by decide), fun q hq => mS (h.lite q hq) (by decide), fun q hq => mS (h.litp q hq) (by decide)⟩⟩ (h.dx (by decide) hC)

/-- A row is looked up. -/
theorem St.rowP (h : St X base w S li le lp) {v : Nat} {l : List (Int)} (hl : S.P[v]? = some l) {K : Addr → Prop} (hk : ∀ (p1 : Addr) (r : Sl), w.cell? p1 = some r.v → R w r l → K p1) : IX S.p (v : Int) 1 K := by
  obtain ⟨own, h⟩ := h
  have hv : v < S.P.length := (List.getElem?_eq_some_iff.1 hl).1
  have e : S.P[v] = l := by rw [List.getElem?_eq_getElem hv] at hl; exact Option.some.inj hl
  refine h.ports.rep.ixL hv fun p1 r hr hc => hk p1 r hc ?_
  rw [← e]; exact hr

theorem St.rEnds (h : St X base w S li le lp) : R w S.x S.E := by obtain ⟨own, h⟩ := h; exact h.ends.rep
theorem St.rIds (h : St X base w S li le lp) : R w S.y S.I := by obtain ⟨own, h⟩ := h; exact h.ids.rep
theorem St.rInp (h : St X base w S li le lp) : R w S.z S.N := by obtain ⟨own, h⟩ := h; exact h.inp.rep
theorem St.rF (h : St X base w S li le lp) : R w S.f S.H := by obtain ⟨own, h⟩ := h; exact h.fs.rep
theorem St.rG (h : St X base w S li le lp) : R w S.g S.G := by obtain ⟨own, h⟩ := h; exact h.gs.rep
theorem St.rP (h : St X base w S li le lp) : R w S.p S.P := by obtain ⟨own, h⟩ := h; exact h.ports.rep

/-- Nothing read yet. -/
def rd0 : RdS := ⟨⟨none, 0, 0⟩, [], ⟨none, 0, 0⟩, [], ⟨none, 0, 0⟩, [], ⟨none, 0, 0⟩, [], ⟨none, 0, 0⟩, [], ⟨none, 0, 0⟩, []⟩
theorem St.zero (w : World) (X : Nat → Prop) {base : Nat} (hb : base ≤ w.heap.size) (hX : ∀ b, X b → b < w.heap.size) : St X base w rd0 [] [] [] :=
  ⟨fun _ => 7, ⟨.none _ _, .none _ _, .none _ _, .none _ _, .none _ _, .none _ _, fun b h => ⟨rfl, hX b h⟩, hb, by simp, by simp, by simp⟩⟩
end
end Go.Proofs.YtcldmpllpfojhaaDoor
end

section
/- Strings in memory: as lists of bytes, lists of strings, and the operations on them. No program is named here. -/
namespace Go.GX
open Go.RowKit

/-- A string of bytes. -/
def mkS (l : List UInt8) : ByteArray := ⟨l.toArray⟩

theorem mkS_of (s : ByteArray) : mkS s.data.toList = s := rfl
theorem mkS_data (l : List UInt8) : (mkS l).data.toList = l := rfl
theorem mkS_size (l : List UInt8) : (mkS l).size = l.length := rfl
theorem mk_lit (l : List UInt8) : ByteArray.mk l.toArray = mkS l := rfl
theorem mkS_app (a b : List UInt8) : mkS a ++ mkS b = mkS (a ++ b) := by
  apply ByteArray.ext
  rw [ByteArray.data_append]
  simp [mkS]
theorem mkS_toList (l : List UInt8) : (mkS l).toList = l := by rw [Go.Lib.toList_data]; rfl
theorem mkS_ext (l : List UInt8) (a b : Nat) : (mkS l).extract a b = mkS ((l.drop a).take (b - a)) := by
  have := Go.Lib.extract_data (mkS l) a b
  rw [mkS_data] at this
  rw [← this, mkS_of]
section
variable {X Y : Prop} {a b : List UInt8}
theorem cond_sne (ht : a ≠ b → X) (hf : a = b → Y) : cond (!((mkS a).toList == (mkS b).toList)) X Y := by
  rw [mkS_toList, mkS_toList]
  by_cases h : a = b
  · rw [beq_iff_eq.2 h]; exact hf h
  · rw [beq_eq_false_iff_ne.2 h]; exact ht h
end

theorem SIX_of {l : List UInt8} {i : Nat} (hi : i < l.length) {K : Int → Prop} (hk : K (l[i].toNat : Int)) : SIX (mkS l) (i : Int) K :=
  ⟨by omega, l[i], by rw [mkS_data]; simp, hk⟩

theorem LD_str {w : World} {a : Addr} {s : ByteArray} {K : ByteArray → Prop} (hc : w.cell? a = some (.string s)) (hk : K s) : LD [.str] a w K :=
  ⟨[.string s], rfl, fun i v hi => by
    match i, hi with
    | 0, hi => simp at hi; subst hi; rw [add_zero']; exact hc, hk⟩

instance : Rep ByteArray where
  sz := 1
  rep _ _ cs s := cs = [.string s]
  len h := by rw [h]; rfl
  agr _ h := h
  weak _ h := h
instance : RepP ByteArray := ⟨by decide⟩
instance : Flat ByteArray where
  cells s := [.string s]
  ok _ := True
  size _ := rfl
  one _ v hv := by simp at hv; subst hv; rfl
  repOk _ := rfl
  ofRep h := ⟨h, trivial⟩

instance : Rep UInt8 where
  sz := 1
  rep _ _ cs s := cs = [.int .u8 (s.toNat : Int)]
  len h := by rw [h]; rfl
  agr _ h := h
  weak _ h := h
instance : RepP UInt8 := ⟨by decide⟩
instance : Flat UInt8 where
  cells s := [.int .u8 (s.toNat : Int)]
  ok _ := True
  size _ := rfl
  one _ v hv := by simp at hv; subst hv; rfl
  repOk _ := rfl
  ofRep h := ⟨h, trivial⟩

theorem SlR.ixStr {D : Nat → Prop} {w : World} {s : Sl} {L : List (List UInt8)} (h : SlR D w s (L.map mkS)) {i : Nat} (hi : i < L.length) {K : Addr → Prop}
    (hk : ∀ p, w.cell? p = some (.string (mkS L[i])) → K p) : IX s i 1 K := by
  have hi' : i < (L.map mkS).length := by simpa using hi
  refine h.ix (n := 1) rfl (by omega) (by omega) fun p cs hr hc => hk p ?_
  have e : cs = [.string ((L.map mkS)[(i : Int).toNat]'(by omega))] := hr
  have h0 := hc 0 (.string (mkS L[i])) (by
    rw [e]
    simp)
  rwa [add_zero'] at h0

section
variable {P : Program} {t : TypeId} {w : World}
theorem RUN_sub (ht : P.underlying t = some .string) {l : List UInt8} {a b : Nat} (h1 : a ≤ b) (h2 : b ≤ l.length) {K : ByteArray → World → Prop} (hk : K (mkS ((l.drop a).take (b - a))) w) :
    RUN P (.at .str) (Instr.sliceAt t (.string (mkS l)) (some (.int .i64 (a : Int))) (some (.int .i64 (b : Int))) none) w K := by
  have h := run_slice_string (P := P) w t (mkS l) .i64 .i64 a b ht (by omega) (by omega) (by rw [mkS_size]; omega)
  unfold RUN
  rw [run_sliceAt_string (h := ht), h, Int.toNat_natCast, Int.toNat_natCast, mkS_ext]
  exact hk
theorem RUN_from (ht : P.underlying t = some .string) {l : List UInt8} {a : Nat} (h1 : a ≤ l.length) {K : ByteArray → World → Prop} (hk : K (mkS (l.drop a)) w) :
    RUN P (.at .str) (Instr.sliceAt t (.string (mkS l)) (some (.int .i64 (a : Int))) none none) w K := by
  have h := run_slice_string_l (P := P) (w := w) t (mkS l) ht .i64 a (by omega) (by rw [mkS_size]; omega)
  unfold RUN
  rw [run_sliceAt_string (h := ht), h, Int.toNat_natCast, mkS_ext, mkS_size, List.take_of_length_le (by simp)]
  exact hk
/-- The bytes of an own row as a string. -/
theorem RUN_bytes {src dst e e' : TypeId} (hs : P.underlying src = some (.slice e)) (he : P.underlying e = some (.int .u8)) (hd : P.underlying dst = some .string) {base : Nat} {s : Sl} {b : UInt8} (h : OwnL w base e' s [b])
    {K : ByteArray → World → Prop} (hk : K (mkS [b]) w) : RUN P (.at .str) (convert src dst s.v) w K := by
  have hr := h.rep fun _ _ => trivial
  obtain ⟨a, cs, h1, _, h3, h4⟩ := hr.2.2 0 b rfl
  have hl : s.len = [b].length := h.1
  obtain rfl : cs = [.int .u8 (b.toNat : Int)] := h3
  have := run_convert_bytes_back (P := P) w src dst e a s.cap [b] hs he hd fun j hj => by
    have hj0 : j = 0 := by simpa using hj
    subst hj0
    exact h4 0 _ rfl
  unfold RUN Sl.v
  rw [h1, hl, this]
  exact hk
end

/-- A value of an interface type held against nil. -/
theorem AEQ_nil {P : Program} {t : TypeId} {ms : Array (String × TypeId)} (hu : P.underlying t = some (.interface ms)) {e : Value} {x : Operand} {K : Bool → Prop} (h : (e = .nilIface ∧ K false) ∨ ((∃ t v, e = .iface t v) ∧ K true)) :
    AEQ P (do eqGuard .neq t x (.const .nilIface) e .nilIface; binOp .neq t e .nilIface) K := by
  rcases h with ⟨rfl, h⟩ | ⟨⟨d, v, rfl⟩, h⟩
  · refine ⟨false, fun w => ?_, h⟩
    have h1 : eqGuard .neq t x (.const .nilIface) .nilIface .nilIface = pure () := by cases x <;> rfl
    have h2 : ∀ d, (Op.equalIn (d + 1) t .nilIface .nilIface).run P w = .ok true w := fun d => by simp [Op.equalIn, underlying_run hu]
    have h3 : (Op.equal t .nilIface .nilIface).run P w = .ok true w := h2 9999
    rw [h1]
    simp [binOp, h3]
  · refine ⟨true, fun w => ?_, h⟩
    have h1 : eqGuard .neq t x (.const .nilIface) (.iface d v) .nilIface = pure () := by cases x <;> rfl
    have h2 : ∀ k, (Op.equalIn (k + 1) t (.iface d v) .nilIface).run P w = .ok false w := fun k => by simp [Op.equalIn, underlying_run hu]
    have h3 : (Op.equal t (.iface d v) .nilIface).run P w = .ok false w := h2 9999
    rw [h1]
    simp [binOp, h3]

end Go.GX
end

section
/- No sorting in this seat. -/
end

section
/- Contracts of the functions on lists of numbers: sorting, copying, searching, ranges. -/
namespace Go.Proofs.YtcldmpllpfojhaaDoor
open Go.GX Go.RowKit
set_option maxRecDepth 100000

/-! ### slices.Sort, slices.Clone -/

/-! ### Ranges -/

def AllIn (l : List Int) (lo hi : Int) : Prop := ∀ x ∈ l, lo ≤ x ∧ x ≤ hi

theorem allIn_take_succ {l : List Int} {lo hi : Int} {i : Nat} (hi' : i < l.length) (h : AllIn (l.take i) lo hi) (hx : lo ≤ l[i] ∧ l[i] ≤ hi) : AllIn (l.take (i + 1)) lo hi := fun x hm => by
  rw [List.take_succ_eq_append_getElem hi'] at hm
  rcases List.mem_append.1 hm with h1 | h1
  · exact h x h1
  · rw [List.mem_singleton.1 h1]; exact hx

theorem l1All_ok {w : World} {s : Sl} {l : List Int} (h : R w s l) (lo hi : Int) :
    Calls Tryd.prog F.s_l1All #[s.v, .int .i64 lo, .int .i64 hi] w (Ret [.at .bool] fun (b : Bool) w' => (b = true ↔ AllIn l lo hi) ∧ w = w') := by
  refine C_s_l1All ?_
  unfold V_s_l1All
  rw [h.len]
  refine ⟨IN l.length fun i w' => w = w' ∧ AllIn (l.take i) lo hi, MN l.length, IN_zero ⟨rfl, fun x hx => by simp at hx⟩, ?_⟩
  rintro x _ ⟨i, rfl, hi', rfl, ha⟩
  intros
  refine cond_dec (fun hlt => ?_) (fun hge => ⟨?_, rfl⟩)
  · have hlt' : i < l.length := by omega
    refine h.ixI hlt' fun p _ hc => LD_int hc ?_
    refine call (l1In_ok _ _ _ _) ?_
    rintro b _ ⟨hb, rfl⟩
    refine cond_not (fun hf => ⟨?_, rfl⟩) (fun ht => IN_next h.le hlt' ⟨rfl, allIn_take_succ hlt' ha (inR_true (hb ▸ ht))⟩)
    simp only [Bool.false_eq_true, false_iff]
    intro hall
    exact inR_false (hb ▸ hf) (hall _ (List.getElem_mem hlt'))
  · have : i = l.length := by omega
    subst this
    simpa using ha

/-! ### Searching with a function -/

/-- A function value that answers p for each element of a list, whatever the world that goes on from this one. -/
def Answers (w : World) (f : Value) (l : List Int) (p : Int → Bool) : Prop :=
  ∀ x ∈ l, ∀ w', Ext w w' → CALLV Tryd.prog f #[.int .i64 x] w' (Ret [.at .bool] fun (b : Bool) w'' => b = p x ∧ Ext w' w'')

/-! ### Identifiers, inputs -/

def IdsOk (ids : List Int) (k : Nat) : Prop := AllIn ids 1 999999 ∧ ids.Nodup ∧ (ids.length = 0 ∨ ids.length = k)

end Go.Proofs.YtcldmpllpfojhaaDoor
end

section
/- Copying between slices, digits of numbers. No program is named here. -/
namespace Go.GX
open Go.RowKit

/-! ### Digits -/

/-! ### Cutting -/

theorem SLC_from' {s : Sl} {lo : Nat} {sz : Nat} (hle : s.len ≤ s.cap) (hlo : lo ≤ s.len) {K : Sl → Prop}
    (hk : ∀ d : Sl, d.len = s.len - lo → d.cap = s.cap - lo → (lo < s.len → d.a = s.a.map (·.add (lo * sz))) → K d) : SLC s (some (lo : Int)) none sz K := by
  refine ⟨by simp, by simp; omega, by simp; omega, hk _ ?_ ?_ ?_⟩
  · simp
  · simp
  · intro hlt
    simp
    intro h; omega

/-! ### copy -/

/-! ### clear, and the first part of a slice of the call's own -/

theorem OwnL.front {α : Type} [Flat α] {w : World} {base : Nat} {e : TypeId} {s : Sl} {l : List α} (h : OwnL w base e s l) {k : Nat} (hk : k ≤ l.length) : OwnL w base e ⟨s.a, k, s.cap⟩ (l.take k) := by
  have hlen : ∀ q : List α, (q.flatMap Flat.cells).length = q.length * Rep.sz α := by
    intro q
    induction q with
    | nil => simp
    | cons x r ih => rw [List.flatMap_cons, List.length_append, ih, Flat.size x, List.length_cons, Nat.succ_mul, Nat.add_comm]
  refine ⟨by simp; omega, ?_, ?_⟩
  · rw [hlen, List.length_take, Nat.min_eq_left hk]
  · rcases h.2.2 with ⟨hv, h0⟩ | ⟨g, cap, cur, hv, hb, hg, hle, hmx, hsz, htake⟩
    · simp [Sl.v] at hv
      have := h.1
      refine .inl ⟨?_, by simp only; omega⟩
      simp [Sl.v, hv.1]
      omega
    · have hv' := hv
      simp [Sl.v] at hv
      have hl := h.1
      refine .inr ⟨g, cap, cur, ?_, hb, hg, by simp only; omega, hmx, hsz, ?_⟩
      · simp [Sl.v, hv.1, hv.2]
      · have hk2 : ((l.take k).flatMap Flat.cells).length = k * Rep.sz α := by rw [hlen, List.length_take, Nat.min_eq_left hk]
        have e2 : (l.take k).flatMap Flat.cells = (l.flatMap Flat.cells).take (k * Rep.sz α) := by
          have e3 : l.flatMap Flat.cells = (l.take k).flatMap Flat.cells ++ (l.drop k).flatMap Flat.cells := by rw [← List.flatMap_append, List.take_append_drop]
          rw [e3, ← hk2, List.take_left]
        rw [e2, ← htake, List.take_take]
        have : k * Rep.sz α ≤ s.len * Rep.sz α := Nat.mul_le_mul_right _ (by omega)
        rw [Nat.min_eq_left this]

end Go.GX
end

section
/- Contracts of functions of the library: Mul, Repeat. -/
namespace Go.Proofs.YtcldmpllpfojhaaDoor
open Go.GX Go.RowKit
set_option maxRecDepth 100000

end Go.Proofs.YtcldmpllpfojhaaDoor
end

section
/- Texts, the reference's side: cutting at a byte, numerals written and read. -/
namespace Go.Proofs.YtcldmpllpfojhaaDoor
open Go.GX Go.RowKit
open Go.Lib (decDigits)
set_option maxRecDepth 100000

theorem slt_str : SlT Tryd.prog T.t_sl_string T.t_string 1 16 (.string (ByteArray.mk #[])) := ⟨by kernel_rfl, by kernel_rfl, rfl, by decide⟩
theorem slt_u8 : SlT Tryd.prog T.t_sl_uint8 T.t_uint8 1 1 (.int .u8 0) := ⟨by kernel_rfl, by kernel_rfl, rfl, by decide⟩
theorem und_str : Tryd.prog.underlying T.t_string = some .string := by kernel_rfl
theorem und_u8s : Tryd.prog.underlying T.t_sl_uint8 = some (.slice T.t_uint8) := by kernel_rfl
theorem und_u8 : Tryd.prog.underlying T.t_uint8 = some (.int .u8) := by kernel_rfl

theorem wrap_u8 {n : Int} (h0 : 0 ≤ n) (h1 : n < 256) : IntKind.u8.wrap n = n := by
  have e1 : (2 : Int) ^ 8 = 256 := rfl
  have hs : IntKind.u8.signed = false := rfl
  simp only [IntKind.wrap, IntKind.bits, hs, Bool.false_and, e1]
  rw [Int.emod_eq_of_lt h0 h1]; simp

theorem strs_ok (L : List ByteArray) : ∀ x ∈ L, Flat.ok x := fun _ _ => trivial

theorem l1Split_ok {w : World} {l : List UInt8} {c : UInt8} (hl : l.length ≤ 1099511627776) :
    Calls Tryd.prog F.s_l1Split #[.string (mkS l), .int .u8 (c.toNat : Int)] w (Ret [.at .sl] fun (r : Sl) w' => Ext w w' ∧ OwnL w' w.heap.size T.t_string r ((splitB c l).map mkS)) := by
  refine C_s_l1Split ?_
  unfold V_s_l1Split
  refine ⟨fun (out : Sl) (fr i : Int) w' => ∃ (k f : Nat) (L : List (List UInt8)), i = k ∧ fr = f ∧ k ≤ l.length ∧ f ≤ k ∧ Ext w w' ∧ OwnL w' w.heap.size T.t_string out (L.map mkS) ∧ splitB c (l.take k) = L ++ [(l.take k).drop f],
    fun _ _ i _ => l.length - i.toNat, ⟨0, 0, [], rfl, rfl, Nat.zero_le _, Nat.zero_le _, Ext.refl _, OwnL.nil _ _ _, rfl⟩, ?_⟩
  rintro out _ _ w1 ⟨k, f, L, rfl, rfl, hk, hf, hE1, hO1, hS⟩
  intros
  have hLl : L.length ≤ l.length := by
    have := splitB_len c (l.take k)
    rw [hS] at this
    simp at this; omega
  have hz1 := hE1.size_le
  -- one piece more
  have push : ∀ {w2 : World} (x : List UInt8) {K : Sl → World → Prop}, Ext w1 w2 → (∀ r w', Ext w w' → OwnL w' w.heap.size T.t_string r ((L ++ [x]).map mkS) → K r w') →
      RUN Tryd.prog (.at .sl) (Instr.buildSlice T.t_sl_string 1 #[(0, .string (mkS x))]) w2 fun y w3 => RUN Tryd.prog (.at .sl) (bsem .append #[T.t_sl_string, T.t_sl_string] T.t_sl_string #[out.v, y.v]) w3 K := by
    intro w2 x K hE2 hK
    refine RUN_lit1 (α := ByteArray) slt_str (mkS x) rfl (by decide) fun y w3 hE3 hO3 => ?_
    have hz2 := hE2.size_le
    have hz3 := hE3.size_le
    refine RUN_append (α := ByteArray) slt_str ((hO1.ext hE2).ext hE3) (by omega) (hO3.rep (strs_ok _)).any (by simp; omega) (by simp [maxLen]; omega) fun r w4 hO4 hs4 => ?_
    have hOb := (hO1.ext hE2).ext hE3
    refine hK r w4 (hs4.ext0 ((hE1.trans hE2).trans hE3) fun k hk => (hOb.blk k hk).1) ?_
    rw [List.map_append]; exact hO4
  rw [mkS_size]
  refine cond_dec (fun hlt => ?_) (fun hge => ?_)
  · have hk' : k < l.length := by omega
    refine SIX_of hk' ?_
    have htk : l.take (k + 1) = l.take k ++ [l[k]] := List.take_succ_eq_append_getElem hk'
    have hsn := splitB_snoc (b := l[k]) hS
    rw [← htk] at hsn
    rw [wrap_of (n := (k : Int) + 1) (by omega) (by omega)]
    have e1 : ((k : Int) + 1) = ((k + 1 : Nat) : Int) := by omega
    rw [e1]
    refine cond_eq (fun heq => ?_) (fun hne => ?_)
    · have hb : l[k] = c := UInt8.toNat_inj.1 (by omega)
      rw [if_pos hb] at hsn
      refine RUN_sub und_str hf (by omega) ?_
      refine push _ (Ext.refl _) fun r w4 hE4 hO4 => ⟨⟨k + 1, k + 1, L ++ [(l.take k).drop f], rfl, rfl, by omega, Nat.le_refl _, hE4, ?_, ?_⟩, by simp only []; omega⟩
      · have e2 : (l.drop f).take (k - f) = (l.take k).drop f := by rw [List.drop_take]
        rw [← e2]; exact hO4
      · rw [hsn, show (l.take (k + 1)).drop (k + 1) = [] from List.drop_of_length_le (by rw [List.length_take]; omega)]
    · have hb : l[k] ≠ c := fun e => hne (by rw [e])
      rw [if_neg hb] at hsn
      refine ⟨⟨k + 1, f, L, rfl, rfl, by omega, by omega, hE1, hO1, ?_⟩, by simp only []; omega⟩
      rw [hsn, htk, List.drop_append_of_le_length (by rw [List.length_take]; omega)]
  · have : k = l.length := by omega
    subst this
    rw [List.take_length] at hS
    refine RUN_from und_str hf ?_
    refine push _ (Ext.refl _) fun r w4 hE4 hO4 => ?_
    rw [hS]
    exact ⟨hE4, hO4⟩

theorem l1Num_ok : ∀ (n : Nat), (n : Int) ≤ 9223372036854775807 → ∀ w : World, Calls Tryd.prog F.s_l1Num #[.int .i64 (n : Int)] w (Ret [.at .str] fun (r : ByteArray) w' => r = mkS (decDigits n) ∧ Ext w w') := by
  intro n
  induction n using Nat.strongRecOn with
  | _ n ih =>
    intro hn w
    refine C_s_l1Num ?_
    unfold V_s_l1Num
    -- one digit
    have one : ∀ {w1 : World} (d : Nat) (x : Int) {K : ByteArray → World → Prop}, d < 10 → x = d → (∀ w', Ext w1 w' → K (mkS [UInt8.ofNat (48 + d)]) w') →
        RUN Tryd.prog (.at .sl) (Instr.buildSlice T.t_sl_uint8 1 #[(0, .int .u8 (IntKind.u8.wrap (IntKind.i64.wrap (48 + x))))]) w1 fun y w2 => RUN Tryd.prog (.at .str) (convert T.t_sl_uint8 T.t_string y.v) w2 K := by
      intro w1 d x K hd hx hK
      subst hx
      have e : IntKind.u8.wrap (IntKind.i64.wrap (48 + (d : Int))) = ((UInt8.ofNat (48 + d)).toNat : Int) := by
        rw [wrap_of (by omega) (by omega), wrap_u8 (by omega) (by omega)]
        have : (UInt8.ofNat (48 + d)).toNat = 48 + d := by simp; omega
        omega
      rw [e]
      refine RUN_lit1 (α := UInt8) slt_u8 (UInt8.ofNat (48 + d)) rfl (by decide) fun y w2 hE2 hO2 => ?_
      exact RUN_bytes und_u8s und_u8 und_str hO2 (hK w2 hE2)
    refine cond_dec (fun hlt => ?_) (fun hge => ?_)
    · refine one n n (by omega) rfl fun w' hE' => ⟨?_, hE'⟩
      rw [decDigits_small (by omega)]
    · have hdiv : IntKind.i64.wrap (Int.tdiv (n : Int) 10) = ((n / 10 : Nat) : Int) := by
        have : Int.tdiv (n : Int) 10 = ((n / 10 : Nat) : Int) := by rw [show (10 : Int) = ((10 : Nat) : Int) from rfl, ← Int.ofNat_tdiv]
        rw [this, wrap_of (by omega) (by omega)]
      have hmod : Int.tmod (n : Int) 10 = ((n % 10 : Nat) : Int) := by rw [show (10 : Int) = ((10 : Nat) : Int) from rfl, Int.ofNat_tmod]
      have hrec := ih (n / 10) (by omega) (by omega)
      have hm10 : n % 10 < 10 := Nat.mod_lt _ (by omega)
      have hbig := decDigits_big (n := n) (by omega)
      have hlen : (decDigits (n / 10)).length + 1 ≤ 9223372036854775807 := by
        rw [Go.Lib.decDigits_length]
        have key : ∀ u : Nat, Go.Lib.nDigits u ≤ u + 1 := by
          intro u
          induction u using Nat.strongRecOn with
          | _ u ih =>
            by_cases h : u < 10
            · rw [Go.Lib.nDigits_small h]; omega
            · rw [Go.Lib.nDigits_big h]; have := ih (u / 10) (by omega); omega
        have := key (n / 10)
        omega
      intro w3 hE3 _
      refine ⟨by decide, by decide, ?_⟩
      rw [hdiv, hmod]
      have fin : ∀ {w' : World}, Ext w3 w' → (mkS (decDigits (n / 10)) ++ mkS [UInt8.ofNat (48 + n % 10)] = mkS (decDigits n)) ∧ Ext w w' := fun hE => ⟨by rw [mkS_app, hbig], hE3.trans hE⟩
      have hsz : (mkS (decDigits (n / 10))).size + (mkS [UInt8.ofNat (48 + n % 10)]).size ≤ 9223372036854775807 := by rw [mkS_size, mkS_size]; simpa using hlen
      -- the literal alone, the conversion alone
      have lit : ∀ {w1 : World} {K : Sl → World → Prop}, (∀ y w', Ext w1 w' → OwnL w' w1.heap.size T.t_uint8 y [UInt8.ofNat (48 + n % 10)] → K y w') →
          RUN Tryd.prog (.at .sl) (Instr.buildSlice T.t_sl_uint8 1 #[(0, .int .u8 (IntKind.u8.wrap (IntKind.i64.wrap (48 + ((n % 10 : Nat) : Int)))))]) w1 K := by
        intro w1 K hK
        have e : IntKind.u8.wrap (IntKind.i64.wrap (48 + ((n % 10 : Nat) : Int))) = ((UInt8.ofNat (48 + n % 10)).toNat : Int) := by
          rw [wrap_of (by omega) (by omega), wrap_u8 (by omega) (by omega)]
          have : (UInt8.ofNat (48 + n % 10)).toNat = 48 + n % 10 := by simp; omega
          omega
        rw [e]
        exact RUN_lit1 (α := UInt8) slt_u8 (UInt8.ofNat (48 + n % 10)) rfl (by decide) fun y w2 hE2 hO2 => hK y w2 hE2 hO2
      refine ⟨?_, Ext.refl _, ?_, ?_⟩
      · refine call (hrec w3) ?_
        rintro _ w4 ⟨rfl, hE4⟩
        refine ⟨hE4, Ext.refl _, lit fun y w5 hE5 hO5 => ⟨hE5, RUN_bytes und_u8s und_u8 und_str hO5 ⟨Ext.refl _, hsz, Ext.refl _, Ext.refl _, fin (hE4.trans hE5)⟩⟩⟩
      · refine call (hrec w3) ?_
        rintro _ w4 ⟨rfl, hE4⟩
        refine ⟨hE4, lit fun y w5 hE5 hO5 => ⟨hE5, RUN_bytes und_u8s und_u8 und_str hO5 ⟨Ext.refl _, hsz, Ext.refl _, Ext.refl _, fin (hE4.trans hE5)⟩⟩⟩
      · refine lit fun y w5 hE5 hO5 => ⟨hE5, ?_, ?_⟩
        · refine call (hrec w5) ?_
          rintro _ w4 ⟨rfl, hE4⟩
          exact ⟨hE4, RUN_bytes und_u8s und_u8 und_str (hO5.ext hE4) ⟨Ext.refl _, hsz, Ext.refl _, Ext.refl _, fin (hE5.trans hE4)⟩⟩
        · refine RUN_bytes und_u8s und_u8 und_str hO5 ⟨Ext.refl _, ?_⟩
          refine call (hrec w5) ?_
          rintro _ w4 ⟨rfl, hE4⟩
          exact ⟨hE4, hsz, Ext.refl _, Ext.refl _, fin (hE5.trans hE4)⟩

/-- What a text reads as: its number, or -1. -/
def ReadIs (l : List UInt8) (x : Int) : Prop := NumOf l x ∨ (x = -1 ∧ ∀ y, ¬ NumOf l y)

theorem l1Read_ok {w : World} {l : List UInt8} (hl : l.length ≤ 1099511627776) :
    Calls Tryd.prog F.s_l1Read #[.string (mkS l)] w (Ret [.at (.int .i64)] fun (x : Int) w' => w' = w ∧ ReadIs l x) := by
  refine C_s_l1Read ?_
  unfold V_s_l1Read
  have num : ∀ {y}, NumOf l y → 1 ≤ l.length ∧ l.length ≤ 6 ∧ (∀ b ∈ l, 48 ≤ b.toNat ∧ b.toNat ≤ 57) ∧ (l.head? = some 48 → l.length = 1) := by
    rintro y ⟨n, h1, rfl, rfl⟩
    refine ⟨List.length_pos_iff.2 (decDigits_ne n), decDigits_few.1 h1, decDigits_mem n, ?_⟩
    induction n using Nat.strongRecOn with
    | _ n ih =>
      by_cases h : n < 10
      · intro _; rw [decDigits_small h]; rfl
      · rw [decDigits_big h]
        intro hh
        have h10 : n / 10 ≠ 0 := by omega
        have hne := decDigits_ne (n / 10)
        replace hh : (decDigits (n / 10)).head? = some 48 := by
          obtain ⟨a, r, e⟩ := List.exists_cons_of_ne_nil hne
          rw [e] at hh ⊢
          simpa using hh
        have hl1 := ih (n / 10) (by omega) (by omega) (by have := decDigits_few.1 h1; rw [decDigits_big h] at this; simp at this; omega) hh
        exfalso
        have h9 : n / 10 < 10 := by
          rcases Nat.lt_or_ge (n / 10) 10 with h | h
          · exact h
          · rw [decDigits_big (by omega)] at hl1
            have := List.length_pos_iff.2 (decDigits_ne (n / 10 / 10))
            rw [List.length_append, List.length_singleton] at hl1; omega
        rw [decDigits_small h9] at hh
        have e : UInt8.ofNat (48 + n / 10) = 48 := by simpa using hh
        have e2 := congrArg UInt8.toNat e
        have e3 : (UInt8.ofNat (48 + n / 10)).toNat = 48 + n / 10 := by simp; omega
        rw [e3] at e2
        have e4 : (48 : UInt8).toNat = 48 := rfl
        omega
  have no : (∀ y, ¬ NumOf l y) → w = w ∧ ReadIs l (-1) := fun h => ⟨rfl, .inr ⟨rfl, h⟩⟩
  rw [mkS_size]
  refine call (l1In_ok _ _ _ _) ?_
  rintro _ _ ⟨rfl, rfl⟩
  refine cond_not (fun hf => no fun y hy => ?_) (fun ht => ?_)
  · have := num hy
    simp only [inR, Bool.and_eq_false_iff, decide_eq_false_iff_not] at hf
    omega
  have hr : 1 ≤ (l.length : Int) ∧ (l.length : Int) ≤ 6 := by simpa [inR] using ht
  -- the digits
  have rest : (l.head? = some 48 → l.length = 1) → V_s_l1Read_k1 (mkS l) (fun (x : Int) w' => w' = w ∧ ReadIs l x) w := by
    intro hz
    unfold V_s_l1Read_k1
    refine ⟨fun (n i : Int) w' => w' = w ∧ ∃ (k m : Nat), i = k ∧ n = m ∧ k ≤ l.length ∧ (∀ b ∈ l.take k, 48 ≤ b.toNat ∧ b.toNat ≤ 57) ∧ Go.Lib.decFrom 0 (l.take k) = some m ∧ m < 10 ^ k, fun _ i _ => l.length - i.toNat, ⟨rfl, 0, 0, rfl, rfl, Nat.zero_le _, by simp, rfl, by decide⟩, ?_⟩
    rintro _ _ _ ⟨rfl, k, m, rfl, rfl, hk, hd, hv, hm⟩
    intros
    rw [mkS_size]
    have h6 : (10 : Nat) ^ k ≤ 1000000 := by
      have : (10 : Nat) ^ k ≤ 10 ^ 6 := Nat.pow_le_pow_right (by decide) (by omega)
      have e : (10 : Nat) ^ 6 = 1000000 := by decide
      omega
    refine cond_dec (fun hlt => ?_) (fun hge => ?_)
    · have hk' : k < l.length := by omega
      have hmem : l[k] ∈ l := List.getElem_mem hk'
      refine SIX_of hk' ?_
      refine cond_dec (fun hlow => no fun y hy => by have := (num hy).2.2.1 _ hmem; omega) (fun hlow => ?_)
      refine SIX_of hk' ?_
      refine cond_dec (fun hhi => no fun y hy => by have := (num hy).2.2.1 _ hmem; omega) (fun hhi => ?_)
      refine SIX_of hk' ?_
      unfold V_s_l1Read_k5
      have htk : l.take (k + 1) = l.take k ++ [l[k]] := List.take_succ_eq_append_getElem hk'
      have e1 : IntKind.u8.wrap ((l[k].toNat : Int) - 48) = ((l[k].toNat - 48 : Nat) : Int) := by rw [wrap_u8 (by omega) (by omega)]; omega
      rw [e1, wrap_of (n := 10 * (m : Int)) (by omega) (by omega), wrap_of (n := ((l[k].toNat - 48 : Nat) : Int)) (by omega) (by omega), wrap_of (n := 10 * (m : Int) + _) (by omega) (by omega), wrap_of (n := (k : Int) + 1) (by omega) (by omega)]
      refine ⟨⟨rfl, k + 1, m * 10 + (l[k].toNat - 48), by omega, by omega, by omega, ?_, ?_, by rw [Nat.pow_succ]; omega⟩, by simp only []; omega⟩
      · intro b hb
        rw [htk] at hb
        rcases List.mem_append.1 hb with hb | hb
        · exact hd b hb
        · rw [List.mem_singleton.1 hb]; omega
      · rw [htk]
        refine decFrom_snoc ?_ _ _ _ hv
        unfold Go.Lib.digitVal
        rw [if_pos (by omega)]
    · have : k = l.length := by omega
      subst this
      rw [List.take_length] at hd hv
      obtain ⟨n, hn⟩ := digits_of l.length l rfl (List.length_pos_iff.1 (by omega)) hz hd
      have e : n = m := by
        have := decFrom_digits n
        rw [hn, hv] at this
        exact (Option.some.inj this).symm
      subst e
      exact ⟨rfl, .inl ⟨n, by omega, hn, rfl⟩⟩
  have h0 : 0 < l.length := by omega
  refine SIX_of (i := 0) h0 ?_
  have hhd : l.head? = some l[0] := by rw [List.head?_eq_getElem?, List.getElem?_eq_getElem h0]
  refine cond_eq (fun h48 => ?_) (fun hne => rest fun hh => ?_)
  · have hb : l[0] = 48 := UInt8.toNat_inj.1 (by have : (48 : UInt8).toNat = 48 := rfl; omega)
    refine cond_dec (fun hgt => no fun y hy => ?_) (fun hle => rest fun _ => by omega)
    have := (num hy).2.2.2 (by rw [hhd, hb])
    omega
  · rw [hhd] at hh
    have : l[0] = 48 := Option.some.inj hh
    exact absurd (by rw [this]; rfl) hne

end Go.Proofs.YtcldmpllpfojhaaDoor
end

section
/- Reading a network's text, the reference's side: a fault, an end, a word. -/
namespace Go.Proofs.YtcldmpllpfojhaaDoor
open Go.GX Go.RowKit
set_option maxRecDepth 100000

/-! ### Rows and the state -/

/-- What the rows read so far make of the lists. -/
structure RowsR (rs : List PR) (S : RdS) : Prop where
  ends : S.E = endsR rs
  ids : S.I = idsR rs
  inp : S.N = inpsR rs
  ports : S.P = rs.map (·.ports)
  fst : S.H.length = rs.length ∧ ∀ (v : Nat) r, rs[v]? = some r → r.id ≠ 0 → S.H[v]? = some r.fst
/-- .. and the row that is being read. -/
structure MidR (rs : List PR) (S : RdS) (id inp f : Int) (es : List (Int × Int)) (ps : List Int) : Prop where
  ends : S.E = endsR rs ++ [es]
  ids : S.I = idsR rs ++ [id]
  inp : S.N = inpsR rs ++ [inp]
  ports : S.P = rs.map (·.ports) ++ [ps]
  fst : ∃ hs, S.H = hs ++ [f] ∧ hs.length = rs.length ∧ ∀ (v : Nat) r, rs[v]? = some r → r.id ≠ 0 → hs[v]? = some r.fst
  len : es.length = ps.length ∧ es.length ≤ 6

theorem snoc_set {α : Type} {l : List α} {a b : α} {v : Nat} (h : l.length = v) : (l ++ [a]).set v b = l ++ [b] := by
  subst h
  rw [List.set_append_right _ _ (Nat.le_refl _), Nat.sub_self]; rfl
theorem snoc_get {α : Type} {l : List α} {a : α} {v : Nat} (h : l.length = v) : (l ++ [a])[v]? = some a := by
  subst h
  rw [List.getElem?_append_right (Nat.le_refl _), Nat.sub_self]; rfl

section
variable {rs : List PR} {S : RdS} {id inp f : Int} {es : List (Int × Int)} {ps : List Int}
theorem MidR.lenI (h : MidR rs S id inp f es ps) : S.I.length = rs.length + 1 := by rw [h.ids]; simp [idsR]
theorem MidR.lenN (h : MidR rs S id inp f es ps) : S.N.length = rs.length + 1 := by rw [h.inp]; simp [inpsR]
theorem MidR.lenH (h : MidR rs S id inp f es ps) : S.H.length = rs.length + 1 := by
  obtain ⟨hs, h1, h2, _⟩ := h.fst
  rw [h1, List.length_append, h2]; rfl
theorem MidR.getE (h : MidR rs S id inp f es ps) : S.E[rs.length]? = some es := by rw [h.ends]; exact snoc_get (by simp [endsR])
theorem MidR.getP (h : MidR rs S id inp f es ps) : S.P[rs.length]? = some ps := by rw [h.ports]; exact snoc_get (by simp)
theorem MidR.getI (h : MidR rs S id inp f es ps) : S.I[rs.length]? = some id := by rw [h.ids]; exact snoc_get (by simp [idsR])
theorem MidR.setI (h : MidR rs S id inp f es ps) (n : Int) : MidR rs { S with I := S.I.set rs.length n } n inp f es ps :=
  ⟨h.ends, by show S.I.set rs.length n = _; rw [h.ids]; exact snoc_set (by simp [idsR]), h.inp, h.ports, h.fst, h.len⟩
theorem MidR.setN (h : MidR rs S id inp f es ps) (n : Int) : MidR rs { S with N := S.N.set rs.length n } id n f es ps :=
  ⟨h.ends, h.ids, by show S.N.set rs.length n = _; rw [h.inp]; exact snoc_set (by simp [inpsR]), h.ports, h.fst, h.len⟩
theorem MidR.setH (h : MidR rs S id inp f es ps) (n : Int) : MidR rs { S with H := S.H.set rs.length n } id inp n es ps := by
  obtain ⟨hs, h1, h2, h3⟩ := h.fst
  exact ⟨h.ends, h.ids, h.inp, h.ports, ⟨hs, by show S.H.set rs.length n = _; rw [h1]; exact snoc_set h2, h2, h3⟩, h.len⟩
theorem MidR.push (h : MidR rs S id inp f es ps) (e : Int × Int) (a : Int) (h6 : es.length < 6) : MidR rs { S with E := S.E.set rs.length (es ++ [e]), P := S.P.set rs.length (ps ++ [a]) } id inp f (es ++ [e]) (ps ++ [a]) :=
  ⟨by show S.E.set rs.length _ = _; rw [h.ends]; exact snoc_set (by simp [endsR]), h.ids, h.inp, by show S.P.set rs.length _ = _; rw [h.ports]; exact snoc_set (by simp), h.fst, by simp [h.len.1], by simp; omega⟩
theorem MidR.done (h : MidR rs S id inp f es ps) {fst' lat : Int} (hf : id ≠ 0 → f = fst') : RowsR (rs ++ [⟨es, id, inp, fst', ps, lat⟩]) S := by
  obtain ⟨hs, h1, h2, h3⟩ := h.fst
  refine ⟨by rw [h.ends]; simp [endsR], by rw [h.ids]; simp [idsR], by rw [h.inp]; simp [inpsR], by rw [h.ports]; simp, by rw [h1]; simp [h2], fun v r hv hid => ?_⟩
  rw [h1]
  by_cases hlt : v < rs.length
  · rw [List.getElem?_append_left hlt] at hv
    rw [List.getElem?_append_left (by omega)]
    exact h3 v r hv hid
  · have hl := (List.getElem?_eq_some_iff.1 hv).1
    rw [List.length_append, List.length_singleton] at hl
    have hve : v = rs.length := by omega
    subst hve
    rw [snoc_get rfl] at hv
    obtain rfl := Option.some.inj hv
    rw [snoc_get h2, hf hid]
theorem RowsR.start (h : RowsR rs S) (x y z f p : Sl) (n : Int) : MidR rs { S with x := x, E := S.E ++ [[]], y := y, I := S.I ++ [0], z := z, N := S.N ++ [0], f := f, H := S.H ++ [n], p := p, P := S.P ++ [[]] } 0 0 n [] [] :=
  ⟨by show S.E ++ _ = _; rw [h.ends], by show S.I ++ _ = _; rw [h.ids], by show S.N ++ _ = _; rw [h.inp], by show S.P ++ _ = _; rw [h.ports], ⟨S.H, rfl, h.fst.1, h.fst.2⟩, rfl, by simp⟩
end

@[reducible] def bxS (S : RdS) (c a : Int) : List Value := [S.x.v, S.y.v, S.z.v, S.g.v, S.p.v, S.f.v, .int .i64 c, .int .i64 a]
/-- What a call may change: the lists and the variable. -/
def DY (X : Nat → Prop) (base : Nat) (p : Addr) (b : Nat) : Prop := DX X base b ∨ b = p.block
theorem dy_of {X : Nat → Prop} {base : Nat} {p : Addr} {w w' : World} (h : Chg w w' (DX X base)) : Chg w w' (DY X base p) := h.mono fun _ => .inl
theorem dy_box {X : Nat → Prop} {base : Nat} {p : Addr} {w w' : World} (h : Chg w w' (fun b => b = p.block)) : Chg w w' (DY X base p) := h.mono fun _ => .inr
theorem dy_ext {X : Nat → Prop} {base : Nat} {p : Addr} {w w' : World} (h : Ext w w') : Chg w w' (DY X base p) := .of_ext h

theorem ST_boxC {w : World} {p : Addr} {t : TypeId} {cs : List Value} {i : Nat} {v : Value} (hb : Box w p t cs) (hi : i < cs.length) (h1 : v.oneCell' = true) {K : World → Prop}
    (hk : ∀ w', Chg w w' (fun b => b = p.block) → Box w' p t (cs.set i v) → K w') : GX.ST (p.add i) 0 [v] w K :=
  ⟨h1, ⟨cs[i], by rw [add_add]; exact hb.cell (by simp [hi])⟩, by rw [add_add]; exact hb.frozen _,
    hk _ ⟨rfl, rfl, rfl, by rw [setCell_size]; exact Nat.le_refl _, fun k _ hne => setCell_other _ _ _ (by rw [add_add, add_block]; exact hne)⟩ (by rw [add_add]; exact hb.set _ v)⟩

theorem fail_ok {w : World} {x0 : Addr} {t : TypeId} {S : RdS} {c0 a0 : Int} (hb : Box w x0 t (bxS S c0 a0)) (c a : Int) :
    Calls Tryd.prog F.ptr_s_txRead_fail #[.pointer (some x0), .int .i64 c, .int .i64 a] w (Ret [.at .bool] fun (r : Bool) w' => r = false ∧ Chg w w' (fun b => b = x0.block) ∧ Box w' x0 t (bxS S c a)) := by
  refine C_ptr_s_txRead_fail ?_
  unfold V_ptr_s_txRead_fail
  refine ST_boxC hb (by simp) rfl fun w1 hC1 hb1 => ?_
  exact ST_boxC hb1 (by simp) rfl fun w2 hC2 hb2 => ⟨rfl, hC1.trans hC2, hb2⟩

/-! ### An end -/

theorem numD_read {l : List UInt8} {n : Int} (h : ReadIs l n) : (0 ≤ n ∧ numD l = some n.toNat) ∨ (n < 0 ∧ numD l = none) := by
  rcases h with h | ⟨rfl, h⟩
  · have := h.range
    obtain ⟨m, h1, h2, rfl⟩ := h
    exact .inl ⟨by omega, numD_iff.2 ⟨m, h1, h2, rfl⟩⟩
  · exact .inr ⟨by omega, numD_none.2 h⟩
theorem markD_read {b c : UInt8} {t : List UInt8} {lo hi : Nat} {n : Int} (h : ReadIs t n) : (b = c ∧ (lo : Int) ≤ n ∧ n ≤ (hi : Int) → markD c lo hi (b :: t) = some n.toNat ∧ ((n.toNat : Nat) : Int) = n) ∧ (¬ (b = c ∧ (lo : Int) ≤ n ∧ n ≤ (hi : Int)) → markD c lo hi (b :: t) = none) := by
  rcases numD_read h with ⟨h0, h1⟩ | ⟨h0, h1⟩
  · constructor
    · rintro ⟨rfl, h2, h3⟩
      unfold markD
      simp only [if_true, h1]
      rw [if_pos (by omega)]
      exact ⟨rfl, by omega⟩
    · intro hn
      unfold markD
      simp only [h1]
      by_cases hb : b = c
      · rw [if_pos hb, if_neg (by intro h2; exact hn ⟨hb, by omega⟩)]
      · rw [if_neg hb]
  · constructor
    · rintro ⟨_, h2, _⟩; omega
    · intro _
      unfold markD
      simp only [h1]
      by_cases hb : b = c
      · rw [if_pos hb]
      · rw [if_neg hb]

theorem txPort_ok {w : World} {l : List UInt8} (hl : l.length ≤ 1048576) :
    Calls Tryd.prog F.s_txPort #[.string (mkS l)] w (Ret [.agg [.int .i64, .int .i64], .at .bool] fun (a b : Int) (ok : Bool) w' => Ext w w' ∧ ((ok = true ∧ portD l = some (a, b)) ∨ (ok = false ∧ portD l = none))) := by
  refine C_s_txPort ?_
  unfold V_s_txPort
  refine NEW_intro fun p2 w1 hp2 hs1 hE1 hb2 => ?_
  refine call (l1Split_ok (c := 46) (by omega)) ?_
  rintro r w2 ⟨hE2, hO⟩
  have hb := hb2.ext hE2
  have hE := hE1.trans hE2
  have no : ∀ {w3 : World}, Ext w w3 → w.heap.size = p2.block → Box w3 p2 T.t_i_End [.int .i64 0, .int .i64 0] → portD l = none →
      GX.ST p2 0 [.int .i64 0, .int .i64 0] w3 fun w4 => LD [.int .i64, .int .i64] p2 w4 fun (a b : Int) => Ext w w4 ∧ ((false = true ∧ portD l = some (a, b)) ∨ (false = false ∧ portD l = none)) := fun hE3 hq hb3 hn =>
    ST_all hb3 (one2 _ _) rfl fun w4 hs4 _ hb4 => LD_box2 hb4 ⟨hs4.ext0 hE3 (fun k hk => by cases hk; omega), .inr ⟨rfl, hn⟩⟩
  rw [hO.1, List.length_map]
  refine cond_ne (fun hne => ?_) (fun heq => ?_)
  · refine no hE hp2.symm hb ?_
    unfold portD
    split
    · rename_i x y hs
      rw [hs] at hne; simp at hne
    · rfl
  · obtain ⟨x, y, hs⟩ : ∃ x y, splitB 46 l = [x, y] := by
      match splitB 46 l, heq with
      | [x, y], _ => exact ⟨x, y, rfl⟩
    have hport : portD l = match numD x, numD y with | some a, some b => some ((a : Int), (b : Int)) | _, _ => none := by unfold portD; rw [hs] <;> rfl
    have hlx : x.length ≤ 1048576 ∧ y.length ≤ 1048576 := by
      have hj := splitB_join hs
      have := congrArg List.length hj
      simp at this; omega
    rw [hs] at hO
    intro w4 hE4 _
    replace hb := hb.ext hE4
    replace hE := hE.trans hE4
    have hR : R w4 r ([x, y].map mkS) := ((hO.ext hE4).rep (strs_ok _)).any
    refine ⟨fun _ => False, ?_⟩
    refine hR.ixStr (i := 0) (by simp) fun p0 hc0 => ⟨not_false, LD_str hc0 ?_⟩
    refine hR.ixStr (i := 1) (by simp) fun p1 hc1 => ⟨not_false, LD_str hc1 ?_⟩
    have tail : ∀ {w6 : World} {pe : Addr} {n m : Int}, Ext w4 w6 → pe.block = w4.heap.size → Box w6 pe T.t_i_End [.int .i64 0, .int .i64 0] → ReadIs x n → ReadIs y m →
        GX.ST pe 0 [.int .i64 n, .int .i64 m] w6 fun w8 => Chg w4 w8 (fun _ => False) ∧ V_s_txPort_k2 (fun (a b : Int) (ok : Bool) w' => Ext w w' ∧ ((ok = true ∧ portD l = some (a, b)) ∨ (ok = false ∧ portD l = none))) p2 pe w8 := by
      intro w6 pe n m hE6 hpe hbe hn hm
      have hb6 := hb.ext hE6
      have hlt := hb.lt
      refine ST_all hbe (one2 _ _) rfl fun w8 hs8 _ hb8 => ?_
      have hE8 : Ext w4 w8 := hs8.ext0 hE6 fun k hk => by cases hk; omega
      have hb28 := hb.ext hE8
      have hE08 := hE.trans hE8
      refine ⟨.of_ext hE8, ?_⟩
      unfold V_s_txPort_k2
      refine LD_bi0 hb8 ?_
      refine cond_dec (fun hneg => no hE08 hp2.symm hb28 ?_) (fun hpos => LD_bi1 hb8 ?_)
      · rcases numD_read hn with ⟨h0, _⟩ | ⟨_, h1⟩
        · omega
        · rw [hport, h1]
      refine cond_dec (fun hneg => no hE08 hp2.symm hb28 ?_) (fun hpos2 => LD_box2 hb8 ?_)
      · rcases numD_read hm with ⟨h0, _⟩ | ⟨_, h1⟩
        · omega
        · rw [hport, h1]
          split
          · rename_i h2; cases h2
          · rfl
      · refine ST_all hb28 (one2 _ _) rfl fun w9 hs9 _ hb9 => LD_box2 hb9 ⟨hs9.ext0 hE08 (fun k hk => by cases hk; omega), .inl ⟨rfl, ?_⟩⟩
        rcases numD_read hn with ⟨h0, h1⟩ | ⟨h0, _⟩
        · rcases numD_read hm with ⟨h2, h3⟩ | ⟨h2, _⟩
          · rw [hport, h1, h3]
            simp only []
            congr 2 <;> omega
          · omega
        · omega
    refine ⟨?_, ?_⟩
    · refine call (l1Read_ok (l := x) (by omega)) ?_
      rintro n _ ⟨rfl, hn⟩
      refine ⟨Chg.refl _ _, ?_, ?_⟩
      · refine call (l1Read_ok (l := y) (by omega)) ?_
        rintro m _ ⟨rfl, hm⟩
        refine ⟨Chg.refl _ _, NEW_intro fun pe w7 hpe hs7 hE7 hbe => ⟨.of_ext hE7, tail hE7 hpe hbe hn hm⟩⟩
      · refine NEW_intro fun pe w7 hpe hs7 hE7 hbe => ⟨.of_ext hE7, ?_⟩
        refine call (l1Read_ok (l := y) (by omega)) ?_
        rintro m _ ⟨rfl, hm⟩
        exact ⟨.of_ext hE7, .of_ext hE7, tail hE7 hpe hbe hn hm⟩
    · refine NEW_intro fun pe w7 hpe hs7 hE7 hbe => ⟨.of_ext hE7, ?_⟩
      refine call (l1Read_ok (l := x) (by omega)) ?_
      rintro n _ ⟨rfl, hn⟩
      refine ⟨.of_ext hE7, ?_⟩
      refine call (l1Read_ok (l := y) (by omega)) ?_
      rintro m _ ⟨rfl, hm⟩
      exact ⟨.of_ext hE7, .of_ext hE7, tail hE7 hpe hbe hn hm⟩

end Go.Proofs.YtcldmpllpfojhaaDoor
end

section
/- Contracts of library functions (the kit's shelf, laid at this program by the kit's own tools, in plain words). -/
namespace Go.Proofs.YtcldmpllpfojhaaDoor
open Go.Shelf
def Srt.lays169_ren : Go.Shelf.Ren := ⟨fun | 169 => 28 | n => n, fun | 70 => 55 | 9 => 9 | 0 => 0 | 72 => 58 | 37 => 56 | 127 => 78 | 3 => 3 | 5 => 5 | n => n, fun | n => n⟩
theorem Srt.lays169 : Go.Proofs.Lays.n169 Tryd.prog Srt.lays169_ren := {
  mixed := by kernel_rfl
  f169 := Tryd.func28.trans (congrArg some (by kernel_rfl))
  t0 := Tryd.underlying0
  a0 := Tryd.isAgg0
  z0 := Tryd.sizeOf0
  v0 := Tryd.zeroValue0
  t3 := Tryd.underlying3
  a3 := Tryd.isAgg3
  z3 := Tryd.sizeOf3
  v3 := Tryd.zeroValue3
  t9 := Tryd.underlying9
  a9 := Tryd.isAgg9
  z9 := Tryd.sizeOf9
  v9 := Tryd.zeroValue9
  t37 := Tryd.underlying56
  a37 := Tryd.isAgg56
  z37 := Tryd.sizeOf56
  v37 := Tryd.zeroValue56
  t70 := Tryd.underlying55
  a70 := Tryd.isAgg55
  z70 := Tryd.sizeOf55
  v70 := Tryd.zeroValue55
  t72 := Tryd.underlying58
  a72 := Tryd.isAgg58
  z72 := Tryd.sizeOf58
  v72 := Tryd.zeroValue58
  t127 := Tryd.underlying78
  a127 := Tryd.isAgg78
  z127 := Tryd.sizeOf78
  v127 := Tryd.zeroValue78 }
theorem Srt.Builder_Extra_169 : Builder.Extra Tryd.prog Srt.lays169_ren := {
  sizeBuilder := by kernel_rfl
  liesBuilder := by kernel_rfl
  t5 := Tryd.underlying5
  a5 := Tryd.isAgg5
  z5 := Tryd.sizeOf5
  v5 := Tryd.zeroValue5
  infoByte := by kernel_rfl
  cellsByte := by kernel_rfl
  sizeByte := by kernel_rfl
  neB5 := by decide }
open Go.RowKit in
/-- (*strings.Builder).String: "String returns the accumulated string.": WHATEVER THE BUILDER HOLDS. (LAID: no walk: one application.) -/
theorem Srt.Builder_String_any (B b : Nat) (l : List UInt8) (w : World) (h : Lib.IsBuilder 58 5 B b (Lib.byteCells l) w) (hBw : B ≤ w.heap.size) :
    Calls Tryd.prog 28 #[.pointer (some ⟨b, 0, none⟩)] w fun e w' => e = .returned (.string ⟨l.toArray⟩) ∧ Below B w w' := Any.Builder_String_any Srt.lays169 Srt.Builder_Extra_169 B b l w h hBw
def Srt.lays156_ren : Go.Shelf.Ren := ⟨fun | 156 => 27 | 165 => 43 | 166 => 26 | 169 => 28 | 240 => 42 | 241 => 56 | 276 => 55 | 277 => 70 | n => n, fun | 31 => 50 | 9 => 9 | 3 => 3 | 4 => 4 | 0 => 0 | 20 => 20 | 72 => 58 | 76 => 62 | 70 => 55 | 37 => 56 | 75 => 61 | 127 => 78 | 164 => 92 | 5 => 5 | 80 => 65 | n => n, fun | n => n⟩
theorem Srt.lays156 : Go.Proofs.Lays.n156 Tryd.prog Srt.lays156_ren := {
  mixed := by kernel_rfl
  f156 := Tryd.func27.trans (congrArg some (by kernel_rfl))
  f165 := Tryd.func43.trans (congrArg some (by kernel_rfl))
  f166 := Tryd.func26.trans (congrArg some (by kernel_rfl))
  f169 := Tryd.func28.trans (congrArg some (by kernel_rfl))
  f240 := Tryd.func42.trans (congrArg some (by kernel_rfl))
  f241 := Tryd.func56.trans (congrArg some (by kernel_rfl))
  f276 := Tryd.func55.trans (congrArg some (by kernel_rfl))
  f277 := Tryd.func70.trans (congrArg some (by kernel_rfl))
  t0 := Tryd.underlying0
  a0 := Tryd.isAgg0
  z0 := Tryd.sizeOf0
  v0 := Tryd.zeroValue0
  t3 := Tryd.underlying3
  a3 := Tryd.isAgg3
  z3 := Tryd.sizeOf3
  v3 := Tryd.zeroValue3
  t4 := Tryd.underlying4
  a4 := Tryd.isAgg4
  z4 := Tryd.sizeOf4
  v4 := Tryd.zeroValue4
  t9 := Tryd.underlying9
  a9 := Tryd.isAgg9
  z9 := Tryd.sizeOf9
  v9 := Tryd.zeroValue9
  t20 := Tryd.underlying20
  a20 := Tryd.isAgg20
  z20 := Tryd.sizeOf20
  v20 := Tryd.zeroValue20
  t31 := Tryd.underlying50
  a31 := Tryd.isAgg50
  z31 := Tryd.sizeOf50
  v31 := Tryd.zeroValue50
  t37 := Tryd.underlying56
  a37 := Tryd.isAgg56
  z37 := Tryd.sizeOf56
  v37 := Tryd.zeroValue56
  t70 := Tryd.underlying55
  a70 := Tryd.isAgg55
  z70 := Tryd.sizeOf55
  v70 := Tryd.zeroValue55
  t72 := Tryd.underlying58
  a72 := Tryd.isAgg58
  z72 := Tryd.sizeOf58
  v72 := Tryd.zeroValue58
  t75 := Tryd.underlying61
  a75 := Tryd.isAgg61
  z75 := Tryd.sizeOf61
  v75 := Tryd.zeroValue61
  t76 := Tryd.underlying62
  a76 := Tryd.isAgg62
  z76 := Tryd.sizeOf62
  v76 := Tryd.zeroValue62
  t127 := Tryd.underlying78
  a127 := Tryd.isAgg78
  z127 := Tryd.sizeOf78
  v127 := Tryd.zeroValue78
  t164 := Tryd.underlying92
  a164 := Tryd.isAgg92
  z164 := Tryd.sizeOf92
  v164 := Tryd.zeroValue92 }
theorem Srt.Builder_Extra_156 : Builder.Extra Tryd.prog Srt.lays156_ren := {
  sizeBuilder := by kernel_rfl
  liesBuilder := by kernel_rfl
  t5 := Tryd.underlying5
  a5 := Tryd.isAgg5
  z5 := Tryd.sizeOf5
  v5 := Tryd.zeroValue5
  infoByte := by kernel_rfl
  cellsByte := by kernel_rfl
  sizeByte := by kernel_rfl
  neB5 := by decide }
open Go.RowKit in
/-- No element: the empty string; the world is as it was. (Whatever the slice's address and capacity: a nil slice too.) (LAID: no walk: one application.) -/
theorem Srt.strings_Join_none (a : Option Addr) (c : Nat) (sep : ByteArray) (w : World) :
    Calls Tryd.prog 27 #[.slice a 0 c, .string sep] w fun e w' => e = .returned (.string ⟨#[]⟩) ∧ w' = w := Any.strings_Join_none Srt.lays156 Srt.Builder_Extra_156 a c sep w
open Go.RowKit in
/-- strings.Join: "Join concatenates the elements of its first argument to create a single string. The separator string sep is placed between elements in the resulting string.": HOWEVER MANY ELEMENTS. Below the heap's end the world is as it was. (LAID: no walk: one application.) -/
theorem Srt.strings_Join (bk o c : Nat) (xs : List ByteArray) (sep : ByteArray) (w : World) (hcells : ∀ (j : Nat) x, xs[j]? = some x → w.cell? ⟨bk, o + j, none⟩ = some (.string x)) (hbk : bk < w.heap.size) (hN : xs.length ≤ 140737488355328) (hcap : xs.length ≤ c) (hlen : (Lib.join (xs.map (·.data.toList)) sep.data.toList).length ≤ 140737488355328) :
    Calls Tryd.prog 27 #[.slice (some ⟨bk, o, none⟩) xs.length c, .string sep] w fun e w' => e = .returned (.string ⟨(Lib.join (xs.map (·.data.toList)) sep.data.toList).toArray⟩) ∧ Below w.heap.size w w' := Any.strings_Join Srt.lays156 Srt.Builder_Extra_156 bk o c xs sep w hcells hbk hN hcap hlen
def Srt.lays137_ren : Go.Shelf.Ren := ⟨fun | 137 => 47 | 217 => 60 | 266 => 72 | n => n, fun | 9 => 9 | 5 => 5 | 3 => 3 | n => n, fun | n => n⟩
theorem Srt.lays137 : Go.Proofs.Lays.n137 Tryd.prog Srt.lays137_ren := {
  mixed := by kernel_rfl
  f137 := Tryd.func47.trans (congrArg some (by kernel_rfl))
  f217 := Tryd.func60.trans (congrArg some (by kernel_rfl))
  f266 := Tryd.func72.trans (congrArg some (by kernel_rfl))
  t3 := Tryd.underlying3
  a3 := Tryd.isAgg3
  z3 := Tryd.sizeOf3
  v3 := Tryd.zeroValue3
  t5 := Tryd.underlying5
  a5 := Tryd.isAgg5
  z5 := Tryd.sizeOf5
  v5 := Tryd.zeroValue5
  t9 := Tryd.underlying9
  a9 := Tryd.isAgg9
  z9 := Tryd.sizeOf9
  v9 := Tryd.zeroValue9 }
open Go.RowKit in
/-- strings.IndexByte: "IndexByte returns the index of the first instance of c in s, or -1 if c is not present in s.": IT RETURNS 'Lib.indexByte s c'; the world is as it was. (LAID: no walk: one application.) -/
theorem Srt.strings_IndexByte (s : ByteArray) (c : Int) (w : World) :
    Calls Tryd.prog 47 #[.string s, .int .u8 c] w fun e w' => e = .returned (.int .i64 (Lib.indexByte s.data.toList c.toNat.toUInt8)) ∧ w' = w := Any.strings_IndexByte Srt.lays137 s c w
def Srt.lays103_ren : Go.Shelf.Ren := ⟨fun | 103 => 61 | 210 => 73 | 206 => 81 | n => n, fun | 9 => 9 | 4 => 4 | 24 => 22 | 3 => 3 | n => n, fun | n => n⟩
theorem Srt.lays103 : Go.Proofs.Lays.n103 Tryd.prog Srt.lays103_ren := {
  mixed := by kernel_rfl
  f103 := Tryd.func61.trans (congrArg some (by kernel_rfl))
  f206 := Tryd.func81.trans (congrArg some (by kernel_rfl))
  f210 := Tryd.func73.trans (congrArg some (by kernel_rfl))
  t3 := Tryd.underlying3
  a3 := Tryd.isAgg3
  z3 := Tryd.sizeOf3
  v3 := Tryd.zeroValue3
  t4 := Tryd.underlying4
  a4 := Tryd.isAgg4
  z4 := Tryd.sizeOf4
  v4 := Tryd.zeroValue4
  t9 := Tryd.underlying9
  a9 := Tryd.isAgg9
  z9 := Tryd.sizeOf9
  v9 := Tryd.zeroValue9
  t24 := Tryd.underlying22
  a24 := Tryd.isAgg22
  z24 := Tryd.sizeOf22
  v24 := Tryd.zeroValue22 }
open Go.RowKit in
/-- strings.CutPrefix: "CutPrefix returns s without the provided leading prefix string and reports whether it found the prefix. If s doesn't start with prefix, CutPrefix returns s, false. If prefix is the empty string, CutPrefix returns s, true.": IT RETURNS '(Lib.trimPrefix s p, Lib.hasPrefix s p)'; the world is as it was. (LAID: no walk: one application.) -/
theorem Srt.strings_CutPrefix (s p : ByteArray) (w : World) :
    Calls Tryd.prog 61 #[.string s, .string p] w fun e w' => e = .returned (.tuple #[.string ⟨(Lib.trimPrefix s.data.toList p.data.toList).toArray⟩, .bool (Lib.hasPrefix s.data.toList p.data.toList)]) ∧ w' = w := Any.strings_CutPrefix Srt.lays103 s p w
def Srt.lays172_ren : Go.Shelf.Ren := ⟨fun | 172 => 74 | 244 => 82 | 245 => 83 | 247 => 87 | 279 => 88 | 280 => 89 | 281 => 90 | 282 => 91 | 287 => 95 | 316 => 96 | 171 => 24 | 205 => 97 | 321 => 99 | 322 => 100 | 243 => 40 | 246 => 54 | 283 => 66 | 284 => 67 | 285 => 68 | 286 => 69 | 129 => 77 | 317 => 76 | 318 => 78 | 319 => 79 | 320 => 80 | 337 => 85 | 338 => 86 | n => n, fun | 9 => 9 | 3 => 3 | 75 => 61 | 76 => 62 | 4 => 4 | 5 => 5 | 167 => 119 | 37 => 56 | 0 => 0 | 85 => 120 | 2 => 2 | 168 => 122 | 53 => 101 | 175 => 127 | 46 => 113 | 210 => 131 | 127 => 78 | 145 => 138 | 143 => 136 | 21 => 21 | 171 => 100 | 173 => 104 | 212 => 110 | 51 => 111 | 20 => 20 | 213 => 112 | 232 => 125 | 233 => 126 | 80 => 65 | n => n, fun | 15 => 4 | 16 => 5 | 17 => 0 | 18 => 2 | 19 => 3 | n => n⟩
theorem Srt.lays172 : Go.Proofs.Lays.n172 Tryd.prog Srt.lays172_ren := {
  mixed := by kernel_rfl
  f129 := Tryd.func77.trans (congrArg some (by kernel_rfl))
  f171 := Tryd.func24.trans (congrArg some (by kernel_rfl))
  f172 := Tryd.func74.trans (congrArg some (by kernel_rfl))
  f205 := Tryd.func97.trans (congrArg some (by kernel_rfl))
  f243 := Tryd.func40.trans (congrArg some (by kernel_rfl))
  f244 := Tryd.func82.trans (congrArg some (by kernel_rfl))
  f245 := Tryd.func83.trans (congrArg some (by kernel_rfl))
  f246 := Tryd.func54.trans (congrArg some (by kernel_rfl))
  f247 := Tryd.func87.trans (congrArg some (by kernel_rfl))
  f279 := Tryd.func88.trans (congrArg some (by kernel_rfl))
  f280 := Tryd.func89.trans (congrArg some (by kernel_rfl))
  f281 := Tryd.func90.trans (congrArg some (by kernel_rfl))
  f282 := Tryd.func91.trans (congrArg some (by kernel_rfl))
  f283 := Tryd.func66.trans (congrArg some (by kernel_rfl))
  f284 := Tryd.func67.trans (congrArg some (by kernel_rfl))
  f285 := Tryd.func68.trans (congrArg some (by kernel_rfl))
  f286 := Tryd.func69.trans (congrArg some (by kernel_rfl))
  f287 := Tryd.func95.trans (congrArg some (by kernel_rfl))
  f316 := Tryd.func96.trans (congrArg some (by kernel_rfl))
  f317 := Tryd.func76.trans (congrArg some (by kernel_rfl))
  f318 := Tryd.func78.trans (congrArg some (by kernel_rfl))
  f319 := Tryd.func79.trans (congrArg some (by kernel_rfl))
  f320 := Tryd.func80.trans (congrArg some (by kernel_rfl))
  f321 := Tryd.func99.trans (congrArg some (by kernel_rfl))
  f322 := Tryd.func100.trans (congrArg some (by kernel_rfl))
  f337 := Tryd.func85.trans (congrArg some (by kernel_rfl))
  f338 := Tryd.func86.trans (congrArg some (by kernel_rfl))
  t0 := Tryd.underlying0
  a0 := Tryd.isAgg0
  z0 := Tryd.sizeOf0
  v0 := Tryd.zeroValue0
  t2 := Tryd.underlying2
  a2 := Tryd.isAgg2
  z2 := Tryd.sizeOf2
  v2 := Tryd.zeroValue2
  t3 := Tryd.underlying3
  a3 := Tryd.isAgg3
  z3 := Tryd.sizeOf3
  v3 := Tryd.zeroValue3
  t4 := Tryd.underlying4
  a4 := Tryd.isAgg4
  z4 := Tryd.sizeOf4
  v4 := Tryd.zeroValue4
  t5 := Tryd.underlying5
  a5 := Tryd.isAgg5
  z5 := Tryd.sizeOf5
  v5 := Tryd.zeroValue5
  t9 := Tryd.underlying9
  a9 := Tryd.isAgg9
  z9 := Tryd.sizeOf9
  v9 := Tryd.zeroValue9
  t20 := Tryd.underlying20
  a20 := Tryd.isAgg20
  z20 := Tryd.sizeOf20
  v20 := Tryd.zeroValue20
  t21 := Tryd.underlying21
  a21 := Tryd.isAgg21
  z21 := Tryd.sizeOf21
  v21 := Tryd.zeroValue21
  t37 := Tryd.underlying56
  a37 := Tryd.isAgg56
  z37 := Tryd.sizeOf56
  v37 := Tryd.zeroValue56
  t46 := Tryd.underlying113
  a46 := Tryd.isAgg113
  z46 := Tryd.sizeOf113
  v46 := Tryd.zeroValue113
  t51 := Tryd.underlying111
  a51 := Tryd.isAgg111
  z51 := Tryd.sizeOf111
  v51 := Tryd.zeroValue111
  t53 := Tryd.underlying101
  a53 := Tryd.isAgg101
  z53 := Tryd.sizeOf101
  v53 := Tryd.zeroValue101
  t75 := Tryd.underlying61
  a75 := Tryd.isAgg61
  z75 := Tryd.sizeOf61
  v75 := Tryd.zeroValue61
  t76 := Tryd.underlying62
  a76 := Tryd.isAgg62
  z76 := Tryd.sizeOf62
  v76 := Tryd.zeroValue62
  t85 := Tryd.underlying120
  a85 := Tryd.isAgg120
  z85 := Tryd.sizeOf120
  v85 := Tryd.zeroValue120
  t127 := Tryd.underlying78
  a127 := Tryd.isAgg78
  z127 := Tryd.sizeOf78
  v127 := Tryd.zeroValue78
  t143 := Tryd.underlying136
  a143 := Tryd.isAgg136
  z143 := Tryd.sizeOf136
  v143 := Tryd.zeroValue136
  t145 := Tryd.underlying138
  a145 := Tryd.isAgg138
  z145 := Tryd.sizeOf138
  v145 := Tryd.zeroValue138
  t167 := Tryd.underlying119
  a167 := Tryd.isAgg119
  z167 := Tryd.sizeOf119
  v167 := Tryd.zeroValue119
  t168 := Tryd.underlying122
  a168 := Tryd.isAgg122
  z168 := Tryd.sizeOf122
  v168 := Tryd.zeroValue122
  t171 := Tryd.underlying100
  a171 := Tryd.isAgg100
  z171 := Tryd.sizeOf100
  v171 := Tryd.zeroValue100
  t173 := Tryd.underlying104
  a173 := Tryd.isAgg104
  z173 := Tryd.sizeOf104
  v173 := Tryd.zeroValue104
  t175 := Tryd.underlying127
  a175 := Tryd.isAgg127
  z175 := Tryd.sizeOf127
  v175 := Tryd.zeroValue127
  t210 := Tryd.underlying131
  a210 := Tryd.isAgg131
  z210 := Tryd.sizeOf131
  v210 := Tryd.zeroValue131
  t212 := Tryd.underlying110
  a212 := Tryd.isAgg110
  z212 := Tryd.sizeOf110
  v212 := Tryd.zeroValue110
  t213 := Tryd.underlying112
  a213 := Tryd.isAgg112
  z213 := Tryd.sizeOf112
  t232 := Tryd.underlying125
  a232 := Tryd.isAgg125
  z232 := Tryd.sizeOf125
  v232 := Tryd.zeroValue125
  t233 := Tryd.underlying126
  a233 := Tryd.isAgg126
  z233 := Tryd.sizeOf126
  v233 := Tryd.zeroValue126
  g15 := by kernel_rfl
  g16 := by kernel_rfl
  g17 := by kernel_rfl
  g18 := by kernel_rfl
  g19 := by kernel_rfl }
open Go.RowKit in
/-- strconv.Atoi: "Atoi is equivalent to ParseInt(s, 10, 0), converted to type int.": AT A DECIMAL NUMERAL OF AT MOST 18 BYTES: its value, and a nil error. The world behind the call: the one new row that the library's '[]byte(s)' lays. (LAID: no walk: one application.) -/
theorem Srt.strconv_Atoi (s : ByteArray) (n : Int) (hl : s.size ≤ 18) (h : Lib.atoi s.data.toList = some n) (w : World) :
    Calls Tryd.prog 74 #[.string s] w fun e w' => e = .returned (.tuple #[.int .i64 n, .nilIface]) ∧ ∃ t, w' = Lib.bytesWorld w 5 t := Any.strconv_Atoi Srt.lays172 s n hl h w
def Srt.laysM171_ren : Go.Shelf.Ren := ⟨fun | 171 => 24 | 243 => 40 | 246 => 54 | 283 => 66 | 284 => 67 | 285 => 68 | 286 => 69 | 129 => 77 | 317 => 76 | 318 => 78 | 319 => 79 | 320 => 80 | 337 => 85 | 338 => 86 | n => n, fun | 3 => 3 | 9 => 9 | 2 => 2 | 4 => 4 | 171 => 100 | 0 => 0 | 53 => 101 | 37 => 56 | 5 => 5 | 173 => 104 | 212 => 110 | 51 => 111 | 20 => 20 | 213 => 112 | 46 => 113 | 232 => 125 | 233 => 126 | n => n, fun | 17 => 0 | 18 => 2 | 19 => 3 | n => n⟩
theorem Srt.laysM171 : Go.Proofs.LaysM.n171 Tryd.prog Srt.laysM171_ren := {
  mixed := by kernel_rfl
  f129 := Tryd.func77.trans (congrArg some (by kernel_rfl))
  f171 := Tryd.func24.trans (congrArg some (by kernel_rfl))
  f243 := Tryd.func40.trans (congrArg some (by kernel_rfl))
  f246 := Tryd.func54.trans (congrArg some (by kernel_rfl))
  f283 := Tryd.func66.trans (congrArg some (by kernel_rfl))
  f284 := Tryd.func67.trans (congrArg some (by kernel_rfl))
  f285 := Tryd.func68.trans (congrArg some (by kernel_rfl))
  f286 := Tryd.func69.trans (congrArg some (by kernel_rfl))
  f317 := Tryd.func76.trans (congrArg some (by kernel_rfl))
  f318 := Tryd.func78.trans (congrArg some (by kernel_rfl))
  f319 := Tryd.func79.trans (congrArg some (by kernel_rfl))
  f320 := Tryd.func80.trans (congrArg some (by kernel_rfl))
  f337 := Tryd.func85.trans (congrArg some (by kernel_rfl))
  f338 := Tryd.func86.trans (congrArg some (by kernel_rfl))
  t0 := Tryd.underlying0
  a0 := Tryd.isAgg0
  z0 := Tryd.sizeOf0
  v0 := Tryd.zeroValue0
  t2 := Tryd.underlying2
  a2 := Tryd.isAgg2
  z2 := Tryd.sizeOf2
  v2 := Tryd.zeroValue2
  t3 := Tryd.underlying3
  a3 := Tryd.isAgg3
  z3 := Tryd.sizeOf3
  v3 := Tryd.zeroValue3
  t4 := Tryd.underlying4
  a4 := Tryd.isAgg4
  z4 := Tryd.sizeOf4
  v4 := Tryd.zeroValue4
  t5 := Tryd.underlying5
  a5 := Tryd.isAgg5
  z5 := Tryd.sizeOf5
  v5 := Tryd.zeroValue5
  t9 := Tryd.underlying9
  a9 := Tryd.isAgg9
  z9 := Tryd.sizeOf9
  v9 := Tryd.zeroValue9
  t20 := Tryd.underlying20
  a20 := Tryd.isAgg20
  z20 := Tryd.sizeOf20
  v20 := Tryd.zeroValue20
  t37 := Tryd.underlying56
  a37 := Tryd.isAgg56
  z37 := Tryd.sizeOf56
  v37 := Tryd.zeroValue56
  t46 := Tryd.underlying113
  a46 := Tryd.isAgg113
  z46 := Tryd.sizeOf113
  v46 := Tryd.zeroValue113
  t51 := Tryd.underlying111
  a51 := Tryd.isAgg111
  z51 := Tryd.sizeOf111
  v51 := Tryd.zeroValue111
  t53 := Tryd.underlying101
  a53 := Tryd.isAgg101
  z53 := Tryd.sizeOf101
  v53 := Tryd.zeroValue101
  t171 := Tryd.underlying100
  a171 := Tryd.isAgg100
  z171 := Tryd.sizeOf100
  v171 := Tryd.zeroValue100
  t173 := Tryd.underlying104
  a173 := Tryd.isAgg104
  z173 := Tryd.sizeOf104
  v173 := Tryd.zeroValue104
  t212 := Tryd.underlying110
  a212 := Tryd.isAgg110
  z212 := Tryd.sizeOf110
  v212 := Tryd.zeroValue110
  t213 := Tryd.underlying112
  a213 := Tryd.isAgg112
  z213 := Tryd.sizeOf112
  t232 := Tryd.underlying125
  a232 := Tryd.isAgg125
  z232 := Tryd.sizeOf125
  v232 := Tryd.zeroValue125
  t233 := Tryd.underlying126
  a233 := Tryd.isAgg126
  z233 := Tryd.sizeOf126
  v233 := Tryd.zeroValue126
  g17 := by kernel_rfl
  g18 := by kernel_rfl
  g19 := by kernel_rfl
  i0 := by kernel_rfl
  i2 := by kernel_rfl
  i3 := by kernel_rfl
  i4 := by kernel_rfl
  i5 := by kernel_rfl
  i9 := by kernel_rfl
  i20 := by kernel_rfl
  i37 := by kernel_rfl
  i46 := by kernel_rfl
  i51 := by kernel_rfl
  i53 := by kernel_rfl
  i171 := by kernel_rfl
  i173 := by kernel_rfl
  i212 := by kernel_rfl
  i232 := by kernel_rfl
  i233 := by kernel_rfl
  m17 := by kernel_rfl
  m18 := by kernel_rfl
  m19 := by kernel_rfl }
open Go.RowKit Go.Sort Go.Lib in
/-- strconv.Itoa: "Itoa is equivalent to FormatInt(int64(i), 10).": i's DECIMAL NUMERAL ('Lib.itoa': a '-' where i is negative, then the digits), FOR EVERY int. The world behind the call: the world before it, new blocks behind the heap (the library's 'var a [24]byte'), draws. (LAID: no walk: one application.) -/
theorem Srt.strconv_Itoa (n : Int) (h0 : -9223372036854775808 ≤ n) (h1 : n ≤ 9223372036854775807) (w : World) (htab : Lib.TabIs Tryd.prog w "internal/strconv.uint64pow10" .u64 Lib.pow10Tab) :
    Calls Tryd.prog 24 #[.int .i64 n] w fun e w' => e = .returned (.string ⟨(Lib.itoa n).toArray⟩) ∧ ∃ k os, w' = grow (w.drewN k) os := Any.strconv_Itoa Srt.laysM171 n h0 h1 w htab
def Srt.laysC172_ren : Go.Shelf.Ren := ⟨fun | 172 => 74 | 244 => 82 | 245 => 83 | 247 => 87 | 279 => 88 | 280 => 89 | 281 => 90 | 282 => 91 | 287 => 95 | 316 => 96 | 171 => 24 | 205 => 97 | 321 => 99 | 322 => 100 | 243 => 40 | 246 => 54 | 283 => 66 | 284 => 67 | 285 => 68 | 286 => 69 | 129 => 77 | 317 => 76 | 318 => 78 | 319 => 79 | 320 => 80 | 337 => 85 | 338 => 86 | n => n, fun | 9 => 9 | 3 => 3 | 75 => 61 | 76 => 62 | 4 => 4 | 5 => 5 | 167 => 119 | 37 => 56 | 0 => 0 | 85 => 120 | 2 => 2 | 168 => 122 | 53 => 101 | 175 => 127 | 46 => 113 | 210 => 131 | 127 => 78 | 145 => 138 | 143 => 136 | 21 => 21 | 171 => 100 | 173 => 104 | 212 => 110 | 51 => 111 | 20 => 20 | 213 => 112 | 232 => 125 | 233 => 126 | 80 => 65 | n => n, fun | 15 => 4 | 16 => 5 | 17 => 0 | 18 => 2 | 19 => 3 | n => n⟩
theorem Srt.laysC172 : Go.Proofs.LaysC.n172 Tryd.prog Srt.laysC172_ren := {
  mixed := by kernel_rfl
  f129 := Tryd.func77.trans (congrArg some (by kernel_rfl))
  f171 := Tryd.func24.trans (congrArg some (by kernel_rfl))
  f172 := Tryd.func74.trans (congrArg some (by kernel_rfl))
  f205 := Tryd.func97.trans (congrArg some (by kernel_rfl))
  f243 := Tryd.func40.trans (congrArg some (by kernel_rfl))
  f244 := Tryd.func82.trans (congrArg some (by kernel_rfl))
  f245 := Tryd.func83.trans (congrArg some (by kernel_rfl))
  f246 := Tryd.func54.trans (congrArg some (by kernel_rfl))
  f247 := Tryd.func87.trans (congrArg some (by kernel_rfl))
  f279 := Tryd.func88.trans (congrArg some (by kernel_rfl))
  f280 := Tryd.func89.trans (congrArg some (by kernel_rfl))
  f281 := Tryd.func90.trans (congrArg some (by kernel_rfl))
  f282 := Tryd.func91.trans (congrArg some (by kernel_rfl))
  f283 := Tryd.func66.trans (congrArg some (by kernel_rfl))
  f284 := Tryd.func67.trans (congrArg some (by kernel_rfl))
  f285 := Tryd.func68.trans (congrArg some (by kernel_rfl))
  f286 := Tryd.func69.trans (congrArg some (by kernel_rfl))
  f287 := Tryd.func95.trans (congrArg some (by kernel_rfl))
  f316 := Tryd.func96.trans (congrArg some (by kernel_rfl))
  f317 := Tryd.func76.trans (congrArg some (by kernel_rfl))
  f318 := Tryd.func78.trans (congrArg some (by kernel_rfl))
  f319 := Tryd.func79.trans (congrArg some (by kernel_rfl))
  f320 := Tryd.func80.trans (congrArg some (by kernel_rfl))
  f321 := Tryd.func99.trans (congrArg some (by kernel_rfl))
  f322 := Tryd.func100.trans (congrArg some (by kernel_rfl))
  f337 := Tryd.func85.trans (congrArg some (by kernel_rfl))
  f338 := Tryd.func86.trans (congrArg some (by kernel_rfl))
  t0 := Tryd.underlying0
  a0 := Tryd.isAgg0
  z0 := Tryd.sizeOf0
  v0 := Tryd.zeroValue0
  t2 := Tryd.underlying2
  a2 := Tryd.isAgg2
  z2 := Tryd.sizeOf2
  v2 := Tryd.zeroValue2
  t3 := Tryd.underlying3
  a3 := Tryd.isAgg3
  z3 := Tryd.sizeOf3
  v3 := Tryd.zeroValue3
  t4 := Tryd.underlying4
  a4 := Tryd.isAgg4
  z4 := Tryd.sizeOf4
  v4 := Tryd.zeroValue4
  t5 := Tryd.underlying5
  a5 := Tryd.isAgg5
  z5 := Tryd.sizeOf5
  v5 := Tryd.zeroValue5
  t9 := Tryd.underlying9
  a9 := Tryd.isAgg9
  z9 := Tryd.sizeOf9
  v9 := Tryd.zeroValue9
  t20 := Tryd.underlying20
  a20 := Tryd.isAgg20
  z20 := Tryd.sizeOf20
  v20 := Tryd.zeroValue20
  t21 := Tryd.underlying21
  a21 := Tryd.isAgg21
  z21 := Tryd.sizeOf21
  v21 := Tryd.zeroValue21
  t37 := Tryd.underlying56
  a37 := Tryd.isAgg56
  z37 := Tryd.sizeOf56
  v37 := Tryd.zeroValue56
  t46 := Tryd.underlying113
  a46 := Tryd.isAgg113
  z46 := Tryd.sizeOf113
  v46 := Tryd.zeroValue113
  t51 := Tryd.underlying111
  a51 := Tryd.isAgg111
  z51 := Tryd.sizeOf111
  v51 := Tryd.zeroValue111
  t53 := Tryd.underlying101
  a53 := Tryd.isAgg101
  z53 := Tryd.sizeOf101
  v53 := Tryd.zeroValue101
  t75 := Tryd.underlying61
  a75 := Tryd.isAgg61
  z75 := Tryd.sizeOf61
  v75 := Tryd.zeroValue61
  t76 := Tryd.underlying62
  a76 := Tryd.isAgg62
  z76 := Tryd.sizeOf62
  v76 := Tryd.zeroValue62
  t85 := Tryd.underlying120
  a85 := Tryd.isAgg120
  z85 := Tryd.sizeOf120
  v85 := Tryd.zeroValue120
  t127 := Tryd.underlying78
  a127 := Tryd.isAgg78
  z127 := Tryd.sizeOf78
  v127 := Tryd.zeroValue78
  t143 := Tryd.underlying136
  a143 := Tryd.isAgg136
  z143 := Tryd.sizeOf136
  v143 := Tryd.zeroValue136
  t145 := Tryd.underlying138
  a145 := Tryd.isAgg138
  z145 := Tryd.sizeOf138
  v145 := Tryd.zeroValue138
  t167 := Tryd.underlying119
  a167 := Tryd.isAgg119
  z167 := Tryd.sizeOf119
  v167 := Tryd.zeroValue119
  t168 := Tryd.underlying122
  a168 := Tryd.isAgg122
  z168 := Tryd.sizeOf122
  v168 := Tryd.zeroValue122
  t171 := Tryd.underlying100
  a171 := Tryd.isAgg100
  z171 := Tryd.sizeOf100
  v171 := Tryd.zeroValue100
  t173 := Tryd.underlying104
  a173 := Tryd.isAgg104
  z173 := Tryd.sizeOf104
  v173 := Tryd.zeroValue104
  t175 := Tryd.underlying127
  a175 := Tryd.isAgg127
  z175 := Tryd.sizeOf127
  v175 := Tryd.zeroValue127
  t210 := Tryd.underlying131
  a210 := Tryd.isAgg131
  z210 := Tryd.sizeOf131
  v210 := Tryd.zeroValue131
  t212 := Tryd.underlying110
  a212 := Tryd.isAgg110
  z212 := Tryd.sizeOf110
  v212 := Tryd.zeroValue110
  t213 := Tryd.underlying112
  a213 := Tryd.isAgg112
  z213 := Tryd.sizeOf112
  t232 := Tryd.underlying125
  a232 := Tryd.isAgg125
  z232 := Tryd.sizeOf125
  v232 := Tryd.zeroValue125
  t233 := Tryd.underlying126
  a233 := Tryd.isAgg126
  z233 := Tryd.sizeOf126
  v233 := Tryd.zeroValue126
  g15 := by kernel_rfl
  g16 := by kernel_rfl
  g17 := by kernel_rfl
  g18 := by kernel_rfl
  g19 := by kernel_rfl
  t80 := Tryd.underlying65
  a80 := Tryd.isAgg65
  z80 := Tryd.sizeOf65
  v80 := Tryd.zeroValue65
  i0 := by kernel_rfl
  i2 := by kernel_rfl
  i3 := by kernel_rfl
  i4 := by kernel_rfl
  i5 := by kernel_rfl
  i9 := by kernel_rfl
  i20 := by kernel_rfl
  i21 := by kernel_rfl
  i37 := by kernel_rfl
  i46 := by kernel_rfl
  i51 := by kernel_rfl
  i53 := by kernel_rfl
  i75 := by kernel_rfl
  i76 := by kernel_rfl
  i80 := by kernel_rfl
  i85 := by kernel_rfl
  i127 := by kernel_rfl
  i143 := by kernel_rfl
  i145 := by kernel_rfl
  i167 := by kernel_rfl
  i168 := by kernel_rfl
  i171 := by kernel_rfl
  i173 := by kernel_rfl
  i175 := by kernel_rfl
  i210 := by kernel_rfl
  i212 := by kernel_rfl
  i232 := by kernel_rfl
  i233 := by kernel_rfl
  m15 := by kernel_rfl
  m16 := by kernel_rfl
  m17 := by kernel_rfl
  m18 := by kernel_rfl
  m19 := by kernel_rfl
  c0 := by kernel_rfl
  c2 := by kernel_rfl
  c3 := by kernel_rfl
  c4 := by kernel_rfl
  c5 := by kernel_rfl
  c9 := by kernel_rfl
  c20 := by kernel_rfl
  c21 := by kernel_rfl
  c37 := by kernel_rfl
  c46 := by kernel_rfl
  c51 := by kernel_rfl
  c53 := by kernel_rfl
  c75 := by kernel_rfl
  c76 := by kernel_rfl
  c80 := by kernel_rfl
  c85 := by kernel_rfl
  c127 := by kernel_rfl
  c143 := by kernel_rfl
  c145 := by kernel_rfl
  c167 := by kernel_rfl
  c168 := by kernel_rfl
  c171 := by kernel_rfl
  c173 := by kernel_rfl
  c175 := by kernel_rfl
  c210 := by kernel_rfl
  c212 := by kernel_rfl
  c213 := by kernel_rfl
  c232 := by kernel_rfl
  c233 := by kernel_rfl }
open Go.RowKit in
/-- strconv.Atoi, AT EVERY STRING OF AT MOST 18 BYTES THAT IS NO DECIMAL NUMERAL (the empty one too): 0, AND AN ERROR THAT IS NOT nil: a *NumError in a new block N: {Func: "Atoi", Num: s's bytes, Err: what the variable ErrSyntax holds}. Of what was there nothing has turned. (LAID: no walk: one application.) -/
theorem Srt.strconv_Atoi_err (s : ByteArray) (hl : s.size ≤ 18) (h : Lib.atoi s.data.toList = none) (ev : Value) (w : World) (hv : w.cell? ⟨4, 0, none⟩ = some ev) (hev : ev = .nilIface ∨ ∃ te pe, ev = .iface te pe) :
    Calls Tryd.prog 74 #[.string s] w fun e w' => ∃ N, e = .returned (.tuple #[.int .i64 0, .iface 122 (.pointer (some ⟨N, 0, none⟩))]) ∧ w.heap.size ≤ N ∧ w'.heap[N]? = some (.cells #[.string ⟨#[65, 116, 111, 105]⟩, .string s, ev] 131 (0, 0)) ∧ Below w.heap.size w w' := Any.strconv_Atoi_err Srt.laysC172 s hl h ev w hv hev
def Srt.lays145_ren : Go.Shelf.Ren := ⟨fun | 145 => 63 | 220 => 75 | 219 => 84 | 217 => 60 | 225 => 92 | 224 => 93 | 267 => 94 | 266 => 72 | 314 => 98 | n => n, fun | 9 => 9 | 4 => 4 | 59 => 97 | 3 => 3 | 5 => 5 | 46 => 113 | 146 => 133 | 51 => 111 | n => n, fun | 1 => 1 | n => n⟩
theorem Srt.lays145 : Go.Proofs.Lays.n145 Tryd.prog Srt.lays145_ren := {
  mixed := by kernel_rfl
  f145 := Tryd.func63.trans (congrArg some (by kernel_rfl))
  f217 := Tryd.func60.trans (congrArg some (by kernel_rfl))
  f219 := Tryd.func84.trans (congrArg some (by kernel_rfl))
  f220 := Tryd.func75.trans (congrArg some (by kernel_rfl))
  f224 := Tryd.func93.trans (congrArg some (by kernel_rfl))
  f225 := Tryd.func92.trans (congrArg some (by kernel_rfl))
  f266 := Tryd.func72.trans (congrArg some (by kernel_rfl))
  f267 := Tryd.func94.trans (congrArg some (by kernel_rfl))
  f314 := Tryd.func98.trans (congrArg some (by kernel_rfl))
  t3 := Tryd.underlying3
  a3 := Tryd.isAgg3
  z3 := Tryd.sizeOf3
  v3 := Tryd.zeroValue3
  t4 := Tryd.underlying4
  a4 := Tryd.isAgg4
  z4 := Tryd.sizeOf4
  v4 := Tryd.zeroValue4
  t5 := Tryd.underlying5
  a5 := Tryd.isAgg5
  z5 := Tryd.sizeOf5
  v5 := Tryd.zeroValue5
  t9 := Tryd.underlying9
  a9 := Tryd.isAgg9
  z9 := Tryd.sizeOf9
  v9 := Tryd.zeroValue9
  t46 := Tryd.underlying113
  a46 := Tryd.isAgg113
  z46 := Tryd.sizeOf113
  v46 := Tryd.zeroValue113
  t51 := Tryd.underlying111
  a51 := Tryd.isAgg111
  z51 := Tryd.sizeOf111
  v51 := Tryd.zeroValue111
  t59 := Tryd.underlying97
  a59 := Tryd.isAgg97
  z59 := Tryd.sizeOf97
  v59 := Tryd.zeroValue97
  t146 := Tryd.underlying133
  a146 := Tryd.isAgg133
  z146 := Tryd.sizeOf133
  v146 := Tryd.zeroValue133
  g1 := by kernel_rfl }
open Go.RowKit Go.Lib in
/-- strings.Cut: "Cut slices s around the first instance of sep, returning the text before and after sep. The found result reports whether sep appears in s. If sep does not appear in s, cut returns s, "", false.": IT RETURNS 'Lib.cut s sep'; the world is as it was but for the count of draws. (LAID: no walk: one application.) -/
theorem Srt.strings_Cut (s sep : ByteArray) (m : Int) (w : World) (hs : s.size < 4294967281) (hm : w.cell? ⟨1, 0, none⟩ = some (.int .i64 m)) :
    Calls Tryd.prog 63 #[.string s, .string sep] w fun e w' => e = .returned (.tuple #[.string ⟨(Lib.cut s.data.toList sep.data.toList).1.toArray⟩, .string ⟨(Lib.cut s.data.toList sep.data.toList).2.1.toArray⟩, .bool (Lib.cut s.data.toList sep.data.toList).2.2]) ∧ ∃ n, w' = w.drewN n := Any.strings_Cut Srt.lays145 s sep m w hs hm
def Srt.laysM145_ren : Go.Shelf.Ren := ⟨fun | 145 => 63 | 220 => 75 | 219 => 84 | 217 => 60 | 225 => 92 | 224 => 93 | 267 => 94 | 266 => 72 | 314 => 98 | n => n, fun | 9 => 9 | 4 => 4 | 59 => 97 | 3 => 3 | 5 => 5 | 46 => 113 | 146 => 133 | 51 => 111 | n => n, fun | 1 => 1 | n => n⟩
theorem Srt.laysM145 : Go.Proofs.LaysM.n145 Tryd.prog Srt.laysM145_ren := {
  mixed := by kernel_rfl
  f145 := Tryd.func63.trans (congrArg some (by kernel_rfl))
  f217 := Tryd.func60.trans (congrArg some (by kernel_rfl))
  f219 := Tryd.func84.trans (congrArg some (by kernel_rfl))
  f220 := Tryd.func75.trans (congrArg some (by kernel_rfl))
  f224 := Tryd.func93.trans (congrArg some (by kernel_rfl))
  f225 := Tryd.func92.trans (congrArg some (by kernel_rfl))
  f266 := Tryd.func72.trans (congrArg some (by kernel_rfl))
  f267 := Tryd.func94.trans (congrArg some (by kernel_rfl))
  f314 := Tryd.func98.trans (congrArg some (by kernel_rfl))
  t3 := Tryd.underlying3
  a3 := Tryd.isAgg3
  z3 := Tryd.sizeOf3
  v3 := Tryd.zeroValue3
  t4 := Tryd.underlying4
  a4 := Tryd.isAgg4
  z4 := Tryd.sizeOf4
  v4 := Tryd.zeroValue4
  t5 := Tryd.underlying5
  a5 := Tryd.isAgg5
  z5 := Tryd.sizeOf5
  v5 := Tryd.zeroValue5
  t9 := Tryd.underlying9
  a9 := Tryd.isAgg9
  z9 := Tryd.sizeOf9
  v9 := Tryd.zeroValue9
  t46 := Tryd.underlying113
  a46 := Tryd.isAgg113
  z46 := Tryd.sizeOf113
  v46 := Tryd.zeroValue113
  t51 := Tryd.underlying111
  a51 := Tryd.isAgg111
  z51 := Tryd.sizeOf111
  v51 := Tryd.zeroValue111
  t59 := Tryd.underlying97
  a59 := Tryd.isAgg97
  z59 := Tryd.sizeOf97
  v59 := Tryd.zeroValue97
  t146 := Tryd.underlying133
  a146 := Tryd.isAgg133
  z146 := Tryd.sizeOf133
  v146 := Tryd.zeroValue133
  g1 := by kernel_rfl
  i3 := by kernel_rfl
  i4 := by kernel_rfl
  i5 := by kernel_rfl
  i9 := by kernel_rfl
  i46 := by kernel_rfl
  i51 := by kernel_rfl
  i59 := by kernel_rfl
  i146 := by kernel_rfl
  m1 := by kernel_rfl
  s1_3 := fun w h => Go.Proofs.cell_of_shapedOpen_int (zero := #[.int .i64 0]) (t := 3) h (of_decide_eq_true (by kernel_rfl)) (by kernel_rfl) rfl (by kernel_rfl) (by kernel_rfl) Tryd.underlying3 }
end Go.Proofs.YtcldmpllpfojhaaDoor
end

section
/- The library's functions on texts in our own words (numerals, cutting, joining); numbers and lines, both sides. -/
namespace Go.Proofs.YtcldmpllpfojhaaDoor
open Go.GX Go.RowKit
open Go.Lib (decDigits)
set_option maxRecDepth 100000

/-! ### What package-level variables hold -/

/-- The table of powers of ten. -/
def GP (w : World) : Prop := Go.Lib.TabIs Tryd.prog w "internal/strconv.uint64pow10" .u64 Go.Lib.pow10Tab
/-- .. the value of ErrSyntax, MaxLen. -/
structure GV (w : World) : Prop where
  pow : GP w
  syn : ∃ ev, w.cell? ⟨Srt.laysC172_ren.g 15, 0, none⟩ = some ev ∧ (ev = .nilIface ∨ ∃ te pe, ev = .iface te pe)
  mx : ∃ m, w.cell? ⟨Srt.lays145_ren.g 1, 0, none⟩ = some (.int .i64 m)

theorem var_ext {P : Program} {w w' : World} {n : String} {cs : Array Value} (h : w.var? P n = some cs) (hE : Ext w w') : w'.var? P n = some cs := by
  unfold World.var? at h ⊢
  cases hg : P.globalNamed n with
  | none => rw [hg] at h; exact h
  | some g =>
    rw [hg] at h
    simp only [Option.bind_some] at h ⊢
    cases hh : w.heap[g]? with
    | none => rw [hh] at h; cases h
    | some o =>
      rw [hE.same (Array.getElem?_eq_some_iff.1 hh).1, hh]
      rw [hh] at h; exact h
theorem GP.ext {w w' : World} (h : GP w) (hE : Ext w w') : GP w' := var_ext h hE
theorem cell_ext {w w' : World} {a : Addr} {v : Value} (h : w.cell? a = some v) (hE : Ext w w') : w'.cell? a = some v := by
  rw [World.cell?_of_block (hE.same (cell_lt h))]; exact h
theorem GV.ext {w w' : World} (h : GV w) (hE : Ext w w') : GV w' :=
  ⟨h.pow.ext hE, let ⟨ev, h1, h2⟩ := h.syn; ⟨ev, cell_ext h1 hE, h2⟩, let ⟨m, h1⟩ := h.mx; ⟨m, cell_ext h1 hE⟩⟩

/-! ### The library -/

theorem Itoa_ok {w : World} (g : GP w) {n : Nat} (hn : (n : Int) ≤ 9223372036854775807) :
    Calls Tryd.prog F.strconv_Itoa #[.int .i64 (n : Int)] w (Ret [.at .str] fun (r : ByteArray) w' => r = mkS (decDigits n) ∧ Ext w w') := by
  refine (Srt.strconv_Itoa (n : Int) (by omega) hn w g).mono ?_
  rintro e w' ⟨rfl, k, os, rfl⟩
  refine ⟨?_, ⟨rfl, rfl, rfl, ?_, ?_⟩⟩
  · have : Go.Lib.itoa (n : Int) = decDigits n := by unfold Go.Lib.itoa; rw [if_neg (by omega)]; rfl
    rw [this]; rfl
  · show w.heap.size ≤ (w.heap ++ os).size
    rw [Array.size_append]; omega
  · intro j hj
    show (w.heap ++ os)[j]? = w.heap[j]?
    rw [Array.getElem?_append_left hj]

theorem Atoi_ok {w : World} (g : GV w) {l : List UInt8} (hl : l.length ≤ 18) :
    Calls Tryd.prog F.strconv_Atoi #[.string (mkS l)] w (Ret [.at (.int .i64), .at .val] fun (x : Int) (e : Value) w' => Ext w w' ∧ ((Go.Lib.atoi l = some x ∧ e = .nilIface) ∨ (Go.Lib.atoi l = none ∧ ∃ t v, e = .iface t v))) := by
  cases h : Go.Lib.atoi l with
  | some n =>
    refine (Srt.strconv_Atoi (mkS l) n (by rw [mkS_size]; exact hl) (by rw [mkS_data]; exact h) w).mono ?_
    rintro e w' ⟨rfl, t, rfl⟩
    exact ⟨Go.Lib.bytesWorld_below _ _ _, .inl ⟨rfl, rfl⟩⟩
  | none =>
    obtain ⟨ev, h1, h2⟩ := g.syn
    refine (Srt.strconv_Atoi_err (mkS l) (by rw [mkS_size]; exact hl) (by rw [mkS_data]; exact h) ev w h1 h2).mono ?_
    rintro e w' ⟨N, rfl, _, _, hE⟩
    exact ⟨hE, .inr ⟨rfl, _, _, rfl⟩⟩

theorem und_err0 : (match Tryd.prog.underlying T.t_error with | some (.interface _) => true | _ => false) = true := by kernel_rfl
theorem und_err : ∃ ms, Tryd.prog.underlying T.t_error = some (.interface ms) := by
  have h := und_err0
  generalize Tryd.prog.underlying T.t_error = d at h
  match d, h with
  | some (.interface ms), _ => exact ⟨ms, rfl⟩

/-- A value of type error held against nil. -/
theorem AEQ_err {e : Value} {x : Operand} {K : Bool → Prop} (h : (e = .nilIface ∧ K false) ∨ ((∃ t v, e = .iface t v) ∧ K true)) :
    AEQ Tryd.prog (do eqGuard .neq T.t_error x (.const .nilIface) e .nilIface; binOp .neq T.t_error e .nilIface) K := by
  obtain ⟨ms, hu⟩ := und_err
  exact AEQ_nil hu h

end Go.Proofs.YtcldmpllpfojhaaDoor
end

section
/- Numbers and lines of words: both sides. -/
namespace Go.Proofs.YtcldmpllpfojhaaDoor
open Go.GX Go.RowKit
open Go.Lib (decDigits)
set_option maxRecDepth 100000

theorem readNumber_ok {w : World} (g : GV w) {l : List UInt8} (hl : l.length ≤ 1099511627776) :
    Calls Tryd.prog F.i_readNumber #[.string (mkS l)] w (Ret [.at (.int .i64), .at .bool] fun (x : Int) (ok : Bool) w' => Ext w w' ∧ ((ok = true ∧ NumOf l x) ∨ (ok = false ∧ x = 0 ∧ ∀ y, ¬ NumOf l y))) := by
  refine C_i_readNumber ?_
  unfold V_i_readNumber
  have no : ∀ {w' : World}, Ext w w' → (∀ y, ¬ NumOf l y) → Ext w w' ∧ ((false = true ∧ NumOf l 0) ∨ (false = false ∧ (0 : Int) = 0 ∧ ∀ y, ¬ NumOf l y)) := fun hE h => ⟨hE, .inr ⟨rfl, rfl, h⟩⟩
  have num : ∀ {y}, NumOf l y → 1 ≤ l.length ∧ l.length ≤ 6 ∧ Go.Lib.atoi l = some y := by
    rintro y ⟨n, h1, rfl, rfl⟩
    exact ⟨List.length_pos_iff.2 (decDigits_ne n), decDigits_few.1 h1, atoi_digits n⟩
  rw [mkS_size]
  refine cond_dec (fun h => no (Ext.refl _) fun y hy => by have := num hy; omega) (fun h1 => ?_)
  refine cond_dec (fun h => no (Ext.refl _) fun y hy => by have := num hy; omega) (fun h6 => ?_)
  refine call (Atoi_ok g (l := l) (by omega)) ?_
  rintro x e w1 ⟨hE1, ha⟩
  change Int at x
  refine AEQ_err ?_
  rcases ha with ⟨ha, rfl⟩ | ⟨ha, he⟩
  · refine .inl ⟨rfl, cond_f rfl ?_⟩
    refine cond_dec (fun hneg => no hE1 fun y hy => ?_) (fun hpos => ?_)
    · have h2 := (num hy).2.2
      rw [ha] at h2
      have h3 := Option.some.inj h2
      have h4 := hy.range
      omega
    obtain ⟨n, rfl⟩ : ∃ n : Nat, x = n := ⟨x.toNat, by omega⟩
    have hn : (n : Int) ≤ 9223372036854775807 := by
      obtain ⟨b0, r, rfl, hc⟩ := Go.Lib.atoi_cases ha
      have key : ∀ (m : List UInt8) (k : Nat), m.length ≤ 6 → Go.Lib.decFrom 0 m = some k → k < 10000000 := fun m k hm hk => by
        have h1 := Go.Lib.decFrom_lt _ _ _ hk
        have h2 : (10 : Nat) ^ m.length ≤ 10 ^ 6 := Nat.pow_le_pow_right (by decide) hm
        have e : (10 : Nat) ^ 6 = 1000000 := by decide
        omega
      simp only [List.length_cons] at h6
      rcases hc with ⟨_, m, _, h1, h2⟩ | ⟨_, m, _, h1, h2⟩ | ⟨_, _, m, h1, h2⟩
      · omega
      · have := key r m (by omega) h1; omega
      · have := key (b0 :: r) m (by simp only [List.length_cons]; omega) h1; omega
    refine call (Itoa_ok (g.ext hE1).pow hn) ?_
    rintro _ w2 ⟨rfl, hE2⟩
    refine cond_sne (fun hne => no (hE1.trans hE2) fun y hy => ?_) (fun heq => ?_)
    · have h2 := (num hy).2.2
      rw [ha] at h2
      have h3 := Option.some.inj h2
      obtain ⟨m, _, h4, rfl⟩ := hy
      have : n = m := by omega
      subst this
      exact hne h4
    · exact ⟨hE1.trans hE2, .inl ⟨rfl, n, decDigits_few.2 (by rw [heq]; omega), heq, rfl⟩⟩
  · refine .inr ⟨he, cond_t rfl (no hE1 fun y hy => ?_)⟩
    have := (num hy).2.2
    rw [ha] at this; cases this

/-! ### Lines written -/

/-! ### Joining, ended lines -/

theorem Join_ok {w : World} {base : Nat} {s : Sl} {L : List (List UInt8)} {sep : List UInt8} (h : OwnL w base T.t_string s (L.map mkS)) (hl : (sep.intercalate L).length ≤ 140737488355328) (hL : L.length ≤ 140737488355328) :
    Calls Tryd.prog F.strings_Join #[s.v, .string (mkS sep)] w (Ret [.at .str] fun (r : ByteArray) w' => r = mkS (sep.intercalate L) ∧ Ext w w') := by
  rcases h.2.2 with ⟨hv, h0⟩ | ⟨g, cap, cur, hv, hb, hg, hle, hmx, hsz, htake⟩
  · have hnil : L = [] := by
      have := h.1
      rw [List.length_map] at this
      exact List.length_eq_zero_iff.1 (by omega)
    subst hnil
    have hlen : s.len = 0 := h0
    have hsv : s.v = .slice s.a 0 s.cap := by rw [← hlen]
    rw [hsv]
    refine (Srt.strings_Join_none s.a s.cap (mkS sep) w).mono ?_
    rintro e w' ⟨rfl, rfl⟩
    exact ⟨rfl, Ext.refl _⟩
  · have hsv : s.v = .slice (some ⟨g, 0, none⟩) (L.map mkS).length cap := by rw [← h.1]; exact hv
    rw [hsv]
    have hlist : (L.map mkS).map (fun x => x.data.toList) = L := by
      rw [List.map_map]
      exact (List.map_congr_left fun x _ => mkS_data x).trans (List.map_id _)
    have hflat : ∀ l : List ByteArray, l.flatMap Flat.cells = l.map Value.string := fun l => by
      induction l with
      | nil => rfl
      | cons x l ih => rw [List.flatMap_cons, ih]; rfl
    refine (Srt.strings_Join g 0 cap (L.map mkS) (mkS sep) w ?_ (Array.getElem?_eq_some_iff.1 hg).1 (by rw [List.length_map]; exact hL) (by rw [← h.1]; exact hle) (by rw [hlist, mkS_data]; exact hl)).mono ?_
    · intro j x hx
      rw [Nat.zero_add]
      have hj : j < (L.map mkS).length := (List.getElem?_eq_some_iff.1 hx).1
      have h1 : cur.toList[j]? = some (.string x) := by
        have h2 : (cur.toList.take (s.len * Rep.sz ByteArray))[j]? = some (.string x) := by
          rw [htake, hflat, List.getElem?_map, hx]; rfl
        rw [List.getElem?_take] at h2
        split at h2
        · exact h2
        · cases h2
      simp only [World.cell?, hg]
      simpa using h1
    · rintro e w' ⟨rfl, hE⟩
      rw [hlist, mkS_data]
      exact ⟨rfl, hE⟩

end Go.Proofs.YtcldmpllpfojhaaDoor
end
