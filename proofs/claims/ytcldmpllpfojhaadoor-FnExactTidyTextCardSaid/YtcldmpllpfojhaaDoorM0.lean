/- Own texts, merged: TxtPure. -/
import Derived.Lib.Split
import Derived.Lib.ItoaNum
import Derived.Lib.Atoi
import Derived.Lib.Join
set_option linter.unusedVariables false
section
/- Texts as lists of bytes: splitting at a byte, decimal numbers, lines of words. No program is named here. -/
namespace Go.GX
open Go.Lib

/-! ### Splitting at a byte -/

def splitB (c : UInt8) : List UInt8 → List (List UInt8)
  | [] => [[]]
  | b :: l => if b = c then [] :: splitB c l else (b :: (splitB c l).headD []) :: (splitB c l).tail

theorem splitB_ne (c : UInt8) (l : List UInt8) : splitB c l ≠ [] := by
  cases l with
  | nil => simp [splitB]
  | cons b l => unfold splitB; split <;> simp

theorem splitB_end (c : UInt8) (l : List UInt8) : ∃ out t, splitB c l = out ++ [t] :=
  ⟨(splitB c l).dropLast, (splitB c l).getLast (splitB_ne c l), (List.dropLast_concat_getLast (splitB_ne c l)).symm⟩

theorem splitB_snoc {c b : UInt8} : ∀ {m : List UInt8} {out : List (List UInt8)} {t : List UInt8}, splitB c m = out ++ [t] →
    splitB c (m ++ [b]) = if b = c then out ++ [t] ++ [[]] else out ++ [t ++ [b]] := by
  intro m
  induction m with
  | nil =>
    intro out t h
    have h' : out ++ [t] = [] ++ [[]] := h.symm
    obtain ⟨rfl, h2⟩ := List.append_inj' h' rfl
    obtain rfl : t = [] := by simpa using h2
    by_cases hb : b = c <;> simp [splitB, hb]
  | cons a m ih =>
    intro out t h
    obtain ⟨o2, t2, h2⟩ := splitB_end c m
    have hi := ih h2
    by_cases ha : a = c
    · have e : splitB c (a :: m) = [] :: splitB c m := by simp [splitB, ha]
      rw [e, h2, show [] :: (o2 ++ [t2]) = ([] :: o2) ++ [t2] from rfl] at h
      obtain ⟨h3, h4⟩ := List.append_inj' h rfl
      obtain rfl : t2 = t := by simpa using h4
      subst h3
      have e2 : splitB c (a :: m ++ [b]) = [] :: splitB c (m ++ [b]) := by simp [splitB, ha]
      rw [e2, hi]
      split <;> rfl
    · have e : splitB c (a :: m) = (a :: (splitB c m).headD []) :: (splitB c m).tail := by simp [splitB, ha]
      have e2 : splitB c (a :: m ++ [b]) = (a :: (splitB c (m ++ [b])).headD []) :: (splitB c (m ++ [b])).tail := by simp [splitB, ha]
      rw [e, h2] at h
      rw [e2, hi]
      cases o2 with
      | nil =>
        have h' : out ++ [t] = [] ++ [a :: t2] := by simpa using h.symm
        obtain ⟨rfl, h4⟩ := List.append_inj' h' rfl
        obtain rfl : t = a :: t2 := by simpa using h4
        split <;> simp
      | cons o os =>
        have h' : out ++ [t] = ((a :: o) :: os) ++ [t2] := by simpa using h.symm
        obtain ⟨rfl, h4⟩ := List.append_inj' h' rfl
        obtain rfl : t = t2 := by simpa using h4
        split <;> simp

theorem splitB_none {c : UInt8} : ∀ {x : List UInt8}, c ∉ x → splitB c x = [x]
  | [], _ => rfl
  | b :: x, h => by
    have hb : b ≠ c := fun e => h (by simp [e])
    have hx : c ∉ x := fun e => h (by simp [e])
    simp [splitB, hb, splitB_none hx]

theorem splitB_app {c : UInt8} {y : List UInt8} : ∀ {x : List UInt8}, c ∉ x → splitB c (x ++ c :: y) = x :: splitB c y
  | [], _ => by simp [splitB]
  | b :: x, h => by
    have hb : b ≠ c := fun e => h (by simp [e])
    have hx : c ∉ x := fun e => h (by simp [e])
    have e : splitB c (b :: x ++ c :: y) = (b :: (splitB c (x ++ c :: y)).headD []) :: (splitB c (x ++ c :: y)).tail := by simp [splitB, hb]
    rw [e, splitB_app hx]; rfl

theorem splitB_len (c : UInt8) : ∀ l : List UInt8, (splitB c l).length ≤ l.length + 1
  | [] => by simp [splitB]
  | b :: l => by
    have := splitB_len c l
    unfold splitB
    split
    · simpa using this
    · simp only [List.length_cons, List.length_tail]; omega

/-- Pieces put together again. -/
theorem splitB_join {c : UInt8} : ∀ {l w : List UInt8} {ws : List (List UInt8)}, splitB c l = w :: ws → l = w ++ ws.flatMap fun x => c :: x := by
  intro l
  induction l with
  | nil => intro w ws h; simp [splitB] at h; obtain ⟨rfl, rfl⟩ := h; rfl
  | cons b l ih =>
    intro w ws h
    obtain ⟨o, os, e⟩ := List.exists_cons_of_ne_nil (splitB_ne c l)
    have := ih e
    unfold splitB at h
    split at h
    · rename_i hb
      obtain ⟨rfl, rfl⟩ := List.cons.inj h
      rw [e, hb, this]; simp
    · rw [e] at h
      obtain ⟨rfl, rfl⟩ := List.cons.inj h
      rw [this]; simp

/-- The library's cutting at one byte. -/
theorem index_one (c : UInt8) : ∀ s : List UInt8, (c ∉ s ∧ index s [c] = -1) ∨ ∃ x y, s = x ++ c :: y ∧ c ∉ x ∧ index s [c] = x.length
  | [] => .inl ⟨by simp, by simp [index]⟩
  | b :: s => by
    by_cases hb : c = b
    · subst hb
      exact .inr ⟨[], s, rfl, by simp, by simp [index]⟩
    · rcases index_one c s with ⟨h1, h2⟩ | ⟨x, y, h1, h2, h3⟩
      · refine .inl ⟨by simp [hb, h1], ?_⟩
        simp [index, hb, h2]
      · refine .inr ⟨b :: x, y, by rw [h1]; rfl, by simp [hb, h2], ?_⟩
        have : ((x.length : Int) == -1) = false := by rw [beq_eq_false_iff_ne]; omega
        unfold index
        rw [h3, this]
        simp [hb]

/-! ### Decimal numbers -/

theorem digit_val {d : Nat} (h : d < 10) : digitVal (UInt8.ofNat (48 + d)) = some d := by
  have e : (UInt8.ofNat (48 + d)).toNat = 48 + d := by simp; omega
  simp only [digitVal, e]
  rw [if_pos (by omega)]
  congr 1; omega

theorem decDigits_small {n : Nat} (h : n < 10) : decDigits n = [UInt8.ofNat (48 + n)] := decDigits_one h
theorem decDigits_big {n : Nat} (h : ¬ n < 10) : decDigits n = decDigits (n / 10) ++ [UInt8.ofNat (48 + n % 10)] := by rw [decDigits, dif_neg h]

theorem decDigits_mem : ∀ (n : Nat) (b : UInt8), b ∈ decDigits n → 48 ≤ b.toNat ∧ b.toNat ≤ 57 := by
  intro n
  induction n using Nat.strongRecOn with
  | _ n ih =>
    intro b hb
    by_cases h : n < 10
    · rw [decDigits_small h, List.mem_singleton] at hb
      subst hb
      have e : (UInt8.ofNat (48 + n)).toNat = 48 + n := by simp; omega
      omega
    · rw [decDigits_big h] at hb
      rcases List.mem_append.1 hb with hb | hb
      · exact ih (n / 10) (by omega) b hb
      · rw [List.mem_singleton] at hb
        subst hb
        have e : (UInt8.ofNat (48 + n % 10)).toNat = 48 + n % 10 := by simp; omega
        omega

theorem decDigits_ne (n : Nat) : decDigits n ≠ [] := by
  by_cases h : n < 10
  · rw [decDigits_small h]; simp
  · rw [decDigits_big h]; simp

theorem decFrom_snoc {b : UInt8} {d : Nat} (hd : digitVal b = some d) : ∀ (l : List UInt8) (acc n : Nat), decFrom acc l = some n → decFrom acc (l ++ [b]) = some (n * 10 + d)
  | [], acc, n, h => by
    obtain rfl : acc = n := by simpa [decFrom] using h
    simp [decFrom, hd]
  | a :: l, acc, n, h => by
    simp only [List.cons_append, decFrom] at h ⊢
    cases ha : digitVal a with
    | none => simp [ha] at h
    | some e => simp only [ha] at h ⊢; exact decFrom_snoc hd l _ n h

theorem decFrom_digits (n : Nat) : decFrom 0 (decDigits n) = some n := by
  induction n using Nat.strongRecOn with
  | _ n ih =>
    by_cases h : n < 10
    · rw [decDigits_small h]; simp only [decFrom, digit_val h]; congr 1; omega
    · rw [decDigits_big h, decFrom_snoc (digit_val (Nat.mod_lt n (by omega))) _ _ _ (ih (n / 10) (by omega))]
      congr 1; omega

theorem decDigits_inj {m n : Nat} (h : decDigits m = decDigits n) : m = n := by
  have h1 := decFrom_digits m
  rw [h, decFrom_digits n] at h1
  exact (Option.some.inj h1).symm

/-- Rows of digits without a leading zero are numerals. -/
theorem digits_of : ∀ (k : Nat) (l : List UInt8), l.length = k → l ≠ [] → (l.head? = some 48 → l.length = 1) → (∀ b ∈ l, 48 ≤ b.toNat ∧ b.toNat ≤ 57) → ∃ n, decDigits n = l := by
  intro k
  induction k with
  | zero => intro l h h0; exact absurd (List.length_eq_zero_iff.1 h) h0
  | succ k ih =>
    intro l h h0 hz hd
    obtain ⟨m, b, rfl⟩ : ∃ m b, l = m ++ [b] := ⟨l.dropLast, l.getLast h0, (List.dropLast_concat_getLast h0).symm⟩
    have hb := hd b (by simp)
    have hbe : UInt8.ofNat (48 + (b.toNat - 48)) = b := by
      have : 48 + (b.toNat - 48) = b.toNat := by omega
      rw [this]; simp
    by_cases hm : m = []
    · subst hm
      exact ⟨b.toNat - 48, by rw [decDigits_small (by omega), hbe]; rfl⟩
    · have hlen : m.length = k := by simp at h; omega
      obtain ⟨a, m2, rfl⟩ := List.exists_cons_of_ne_nil hm
      obtain ⟨n, hn⟩ := ih (a :: m2) hlen (by simp) (fun e => by
        have := hz (by simpa using e); simp at this) fun x hx => hd x (by simp at hx ⊢; rcases hx with h | h <;> simp [h])
      have hn0 : n ≠ 0 := by
        rintro rfl
        have e : decDigits 0 = [48] := by rw [decDigits_small (by omega)]; rfl
        rw [e] at hn
        have h1 : a = 48 := by simpa using (List.cons.inj hn).1.symm
        have := hz (by simp [h1])
        simp at this
      refine ⟨10 * n + (b.toNat - 48), ?_⟩
      rw [decDigits_big (by omega), show (10 * n + (b.toNat - 48)) / 10 = n by omega, show (10 * n + (b.toNat - 48)) % 10 = b.toNat - 48 by omega, hn, hbe]

theorem decDigits_few {n : Nat} : n < 1000000 ↔ (decDigits n).length ≤ 6 := by
  rw [decDigits_length]
  have h1 := lt_pow_nDigits n
  constructor
  · intro h
    rcases Nat.lt_or_ge (nDigits n) 7 with h7 | h7
    · omega
    · exfalso
      -- at least seven digits: at least a million
      have key : ∀ k u, k + 1 ≤ nDigits u → 10 ^ k ≤ u ∨ k = 0 := by
        intro k
        induction k with
        | zero => intro u _; exact .inr rfl
        | succ k ih =>
          intro u hu
          by_cases hs : u < 10
          · rw [nDigits_small hs] at hu; omega
          · rw [nDigits_big hs] at hu
            rcases ih (u / 10) (by omega) with h | rfl
            · left; rw [Nat.pow_succ]; omega
            · left; simp; omega
      rcases key 6 n h7 with h | h
      · have : (10 : Nat) ^ 6 = 1000000 := by decide
        omega
      · omega
  · intro h
    have : (10 : Nat) ^ nDigits n ≤ 10 ^ 6 := Nat.pow_le_pow_right (by decide) h
    have e : (10 : Nat) ^ 6 = 1000000 := by decide
    omega

/-- The number of at most six digits that a text spells. -/
def NumOf (l : List UInt8) (x : Int) : Prop := ∃ n : Nat, n < 1000000 ∧ decDigits n = l ∧ x = n
theorem NumOf.unique {l : List UInt8} {x y : Int} (h : NumOf l x) (h' : NumOf l y) : x = y := by
  obtain ⟨m, _, h1, rfl⟩ := h
  obtain ⟨n, _, h2, rfl⟩ := h'
  rw [decDigits_inj (h1.trans h2.symm)]
theorem NumOf.range {l : List UInt8} {x : Int} (h : NumOf l x) : 0 ≤ x ∧ x < 1000000 := by
  obtain ⟨n, h1, _, rfl⟩ := h; omega

theorem atoi_digits (n : Nat) : atoi (decDigits n) = some (n : Int) := by
  obtain ⟨b, r, e⟩ := List.exists_cons_of_ne_nil (decDigits_ne n)
  have hb := decDigits_mem n b (by rw [e]; simp)
  have h := decFrom_digits n
  rw [e] at h ⊢
  have h1 : (b == 45) = false := by rw [beq_eq_false_iff_ne]; rintro rfl; simp at hb
  have h2 : (b == 43) = false := by rw [beq_eq_false_iff_ne]; rintro rfl; simp at hb
  unfold atoi
  simp only [h1, h2, Bool.false_eq_true, if_false, decNat, List.isEmpty_cons, h, Option.map_some]

/-! ### Lines -/

/-- A number in a line: a star for what is below zero. -/
def numS (x : Int) : List UInt8 := if x < 0 then [42] else decDigits x.toNat
theorem numS_inj {x y : Int} (hx : -1 ≤ x) (hy : -1 ≤ y) (h : numS x = numS y) : x = y := by
  have star : ∀ n : Nat, decDigits n ≠ [42] := fun n e => by
    have := decDigits_mem n 42 (by rw [e]; simp)
    simp at this
  unfold numS at h
  split at h <;> split at h
  · omega
  · exact absurd h.symm (star _)
  · exact absurd h (star _)
  · have := decDigits_inj h; omega

/-- Words that are numbers, or stars for -1. -/
def StarsOf (ws : List (List UInt8)) (ns : List Int) : Prop := ns.map numS = ws ∧ ∀ x ∈ ns, -1 ≤ x ∧ x < 1000000
theorem StarsOf.unique {ws : List (List UInt8)} : ∀ {ns ms : List Int}, StarsOf ws ns → StarsOf ws ms → ns = ms := by
  induction ws with
  | nil => intro ns ms h h'; rw [List.map_eq_nil_iff.1 h.1, List.map_eq_nil_iff.1 h'.1]
  | cons w ws ih =>
    intro ns ms h h'
    cases ns with
    | nil => exact absurd h.1 (by simp)
    | cons x ns =>
      cases ms with
      | nil => exact absurd h'.1 (by simp)
      | cons y ms =>
        have e1 := List.cons.inj h.1
        have e2 := List.cons.inj h'.1
        have hxy : x = y := numS_inj (h.2 x (by simp)).1 (h'.2 y (by simp)).1 (e1.1.trans e2.1.symm)
        subst hxy
        rw [ih ⟨e1.2, fun z hz => h.2 z (by simp [hz])⟩ ⟨e2.2, fun z hz => h'.2 z (by simp [hz])⟩]

/-! ### Joining -/

theorem intercalate_cons (sep x : List UInt8) : ∀ (L : List (List UInt8)), sep.intercalate (x :: L) = x ++ L.flatMap fun y => sep ++ y := by
  intro L
  induction L generalizing x with
  | nil => simp [List.intercalate]
  | cons y L ih =>
    have e : sep.intercalate (x :: y :: L) = x ++ (sep ++ sep.intercalate (y :: L)) := by simp [List.intercalate, List.intersperse]
    rw [e, ih y]; simp
end Go.GX
end
