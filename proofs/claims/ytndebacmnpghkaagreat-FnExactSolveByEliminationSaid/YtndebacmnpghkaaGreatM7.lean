/- Own texts, merged: PullN0, PullN, Endless, BoundIn, PullNS, PullR, Times, BoundArg, BoundMem, BoundSz, Times2, Zero, SolveE, SolveByEliminationWalk, Door. -/
import Derived.Test.YtndebacmnpghkaaGreatM6
import Derived.Test.YtndebacmnpghkaaGreatRows
import Derived.KernelRfl
import Derived.JoinedOf
set_option linter.unusedVariables false
section
/- Labels pulled through the node step: plain. -/
namespace Go.Proofs.YtndebacmnpghkaaGreat
open Go.GX Go.RowKit
set_option maxRecDepth 100000

def set2 (M : List (List Int)) (v i : Nat) (c : Int) : List (List Int) := M.set v ((M.getD v []).set i c)

theorem set2_get {M : List (List Int)} {v i : Nat} (hv : v < M.length) (c : Int) : set2 M v i c = M.set v (M[v].set i c) := by unfold set2; rw [rowD hv]

theorem set2_rows {E : Ends} {M : List (List Int)} (h : SameRows E M) (v i : Nat) (c : Int) : SameRows E (set2 M v i c) := by
  refine ⟨by simp [set2, h.1], fun u hu => ?_⟩
  have hu' : u < M.length := by simpa [set2] using hu
  rw [← h.2 u hu']
  unfold set2
  simp only [List.getD_eq_getElem?_getD]
  by_cases huv : v = u
  · subst huv
    rw [List.getElem?_set_self hu']
    simp
  · rw [List.getElem?_set_ne huv]

theorem getD_set2 {α : Type} (l : List α) (v u : Nat) (r d : α) : (l.set v r).getD u d = if v = u ∧ v < l.length then r else l.getD u d := by
  simp only [List.getD_eq_getElem?_getD]
  by_cases h : v = u
  · subst h
    by_cases h2 : v < l.length
    · rw [List.getElem?_set_self h2, if_pos ⟨rfl, h2⟩]; rfl
    · rw [if_neg fun hh => h2 hh.2, List.getElem?_eq_none (by simp; omega), List.getElem?_eq_none (by omega)]
  · rw [List.getElem?_set_ne h, if_neg fun hh => h hh.1]

theorem at2_set2 {E : Ends} {M : List (List Int)} (hM : SameRows E M) {u j : Nat} (hu : u < E.length) (hj : j < (E.getD u []).length) (v i : Nat) (c : Int) : at2 (set2 M v i c) u j = if v = u ∧ i = j then c else at2 M u j := by
  have hu' : u < M.length := by rw [hM.1]; exact hu
  have hj' : j < (M.getD u []).length := by rw [hM.2 u hu']; exact hj
  unfold at2 set2
  rw [getD_set2]
  by_cases hv : v = u
  · subst hv
    rw [if_pos ⟨rfl, hu'⟩, getD_set2]
    by_cases hi : i = j
    · subst hi; rw [if_pos ⟨rfl, hj'⟩, if_pos ⟨rfl, rfl⟩]
    · rw [if_neg fun hh => hi hh.1, if_neg fun hh => hi hh.2]
  · rw [if_neg fun hh => hv hh.1, if_neg fun hh => hv hh.1]

def endsP (L : List (List Int)) (q : Edge) : List Int := [at2 L q.1.toNat q.2.1.toNat, at2 L q.2.2.1.toNat q.2.2.2.toNat]
def pairN (p : Prob) (S : List Int) (L : List (List Int)) (q : Edge) : List Int := (firstC (nodeB2 p) (listsAt S (endsP L q)) []).getD []
def stepN (p : Prob) (S : List Int) (L M : List (List Int)) (q : Edge) : List (List Int) := set2 (set2 M q.1.toNat q.2.1.toNat ((pairN p S L q).getD 0 0)) q.2.2.1.toNat q.2.2.2.toNat ((pairN p S L q).getD 1 0)
def pullN (p : Prob) (S : List Int) (L : List (List Int)) (l : List Edge) (M : List (List Int)) : List (List Int) := l.foldl (stepN p S L) M

theorem pullN_snoc (p : Prob) (S : List Int) (L : List (List Int)) (l : List Edge) (q : Edge) (M : List (List Int)) : pullN p S L (l ++ [q]) M = stepN p S L (pullN p S L l M) q := by simp [pullN]

theorem stepN_rows {p : Prob} {S : List Int} {L : List (List Int)} {E : Ends} {M : List (List Int)} (h : SameRows E M) (q : Edge) : SameRows E (stepN p S L M q) := set2_rows (set2_rows h _ _ _) _ _ _

theorem pullN_rows {p : Prob} {S : List Int} {L : List (List Int)} {E : Ends} : ∀ (l : List Edge) {M : List (List Int)}, SameRows E M → SameRows E (pullN p S L l M)
  | [], _, h => h
  | q :: l, _, h => pullN_rows l (stepN_rows h q)

def Hits (q : Edge) (u j : Nat) : Prop := (q.1.toNat = u ∧ q.2.1.toNat = j) ∨ (q.2.2.1.toNat = u ∧ q.2.2.2.toNat = j)

theorem pullN_agree {p : Prob} {S : List Int} {L : List (List Int)} {E : Ends} {u j : Nat} (hu : u < E.length) (hj : j < (E.getD u []).length) : ∀ (l : List Edge) {M M' : List (List Int)}, SameRows E M → SameRows E M' → (at2 M u j = at2 M' u j ∨ ∃ q ∈ l, Hits q u j) → at2 (pullN p S L l M) u j = at2 (pullN p S L l M') u j
  | [], M, M', _, _, h => by
    rcases h with h | ⟨q, hq, _⟩
    · exact h
    · cases hq
  | q :: l, M, M', h, h', ha => by
    refine pullN_agree (M := stepN p S L M q) (M' := stepN p S L M' q) hu hj l (stepN_rows h q) (stepN_rows h' q) ?_
    unfold stepN
    rw [at2_set2 (set2_rows h _ _ _) hu hj, at2_set2 (set2_rows h' _ _ _) hu hj, at2_set2 h hu hj, at2_set2 h' hu hj]
    by_cases h1 : q.2.2.1.toNat = u ∧ q.2.2.2.toNat = j
    · rw [if_pos h1, if_pos h1]; exact .inl rfl
    · rw [if_neg h1, if_neg h1]
      by_cases h2 : q.1.toNat = u ∧ q.2.1.toNat = j
      · rw [if_pos h2, if_pos h2]; exact .inl rfl
      · rw [if_neg h2, if_neg h2]
        rcases ha with ha | ⟨q', hq', hh⟩
        · exact .inl ha
        · rcases List.mem_cons.1 hq' with rfl | hq'
          · rcases hh with hh | hh
            · exact absurd hh h2
            · exact absurd hh h1
          · exact .inr ⟨q', hq', hh⟩

theorem rows_ext {E : Ends} {M M' : List (List Int)} (h : SameRows E M) (h' : SameRows E M') (hc : ∀ u j, u < E.length → j < (E.getD u []).length → at2 M u j = at2 M' u j) : M = M' := by
  refine List.ext_getElem (by rw [h.1, h'.1]) fun u h1 h2 => ?_
  have hl := h.2 u h1
  have hl' := h'.2 u h2
  rw [rowD h1] at hl
  rw [rowD h2] at hl'
  refine List.ext_getElem (by omega) fun j h3 h4 => ?_
  have := hc u j (by rw [← h.1]; exact h1) (by omega)
  rwa [at2_get h1 h3, at2_get h2 h4] at this

theorem covered {n : Net} (hg : Good n) {u j : Nat} (hu : u < n.ends.length) (hj : j < (n.ends.getD u []).length) : ∃ q ∈ edgesOf n.ends, Hits q u j := by
  rw [rowD hu] at hj
  obtain ⟨x, y, hxy, hx, hb⟩ := hg.far hu hj
  by_cases hf : isFirst u j ((x : Int), (y : Int)) = true
  · refine ⟨((u : Int), (j : Int), (x : Int), (y : Int)), mem_edgesOf.2 ⟨u, j, ((x : Int), (y : Int)), by rw [port_get hu hj, hxy], hf, rfl⟩, .inl ⟨by simp, by simp⟩⟩
  · refine ⟨((x : Int), (y : Int), (u : Int), (j : Int)), mem_edgesOf.2 ⟨x, y, ((u : Int), (j : Int)), hb, ?_, rfl⟩, .inr ⟨by simp, by simp⟩⟩
    unfold isFirst at hf ⊢
    simp only [Bool.or_eq_true, Bool.and_eq_true, decide_eq_true_eq, beq_iff_eq, not_or, not_and] at hf ⊢
    omega

theorem pullN_all {p : Prob} {S : List Int} {L : List (List Int)} {n : Net} (hg : Good n) {M M' : List (List Int)} (h : SameRows n.ends M) (h' : SameRows n.ends M') : pullN p S L (edgesOf n.ends) M = pullN p S L (edgesOf n.ends) M' :=
  rows_ext (pullN_rows _ h) (pullN_rows _ h') fun _ _ hu hj => pullN_agree hu hj _ h h' (.inr (covered hg hu hj))

def I64s (M : List (List Int)) : Prop := ∀ r ∈ M, ∀ x ∈ r, I64 x

theorem set2_I64 {M : List (List Int)} (h : I64s M) {v i : Nat} {c : Int} (hc : I64 c) : I64s (set2 M v i c) := fun r hr x hx => by
  unfold set2 at hr
  rcases List.mem_or_eq_of_mem_set hr with h1 | rfl
  · exact h r h1 x hx
  · rcases List.mem_or_eq_of_mem_set hx with h2 | rfl
    · by_cases hv : v < M.length
      · rw [rowD hv] at h2; exact h _ (List.getElem_mem hv) x h2
      · rw [List.getD_eq_getElem?_getD, List.getElem?_eq_none (by omega)] at h2; cases h2
    · exact hc

theorem pair_labs (p : Prob) (S : List Int) (L : List (List Int)) (q : Edge) : ∀ x ∈ pairN p S L q, 0 ≤ x ∧ x < 8 := fun x hx => by
  unfold pairN at hx
  cases hG : firstC (nodeB2 p) (listsAt S (endsP L q)) [] with
  | none => rw [hG] at hx; cases hx
  | some c =>
    rw [hG, Option.getD_some] at hx
    obtain ⟨_, e, he, hce⟩ := firstC_spec hG
    rw [hce, List.nil_append] at hx
    obtain ⟨l, hl, hxl⟩ := two2_mem (mem_prodL.1 he) x hx
    obtain ⟨y, _, rfl⟩ := List.mem_map.1 hl
    obtain ⟨a, rfl, ha, _⟩ := mem_labsOf.1 hxl
    omega

theorem pair_at (p : Prob) (S : List Int) (L : List (List Int)) (q : Edge) (k : Nat) : 0 ≤ (pairN p S L q).getD k 0 ∧ (pairN p S L q).getD k 0 < 8 := by
  by_cases hk : k < (pairN p S L q).length
  · have : (pairN p S L q).getD k 0 = (pairN p S L q)[k] := by rw [List.getD_eq_getElem?_getD, List.getElem?_eq_getElem hk]; rfl
    rw [this]
    exact pair_labs p S L q _ (List.getElem_mem hk)
  · rw [List.getD_eq_getElem?_getD, List.getElem?_eq_none (by omega)]
    simp

theorem stepN_I64 {p : Prob} {S : List Int} {L M : List (List Int)} (h : I64s M) (q : Edge) : I64s (stepN p S L M q) := by
  have h0 := pair_at p S L q 0
  have h1 := pair_at p S L q 1
  exact set2_I64 (set2_I64 h (by unfold I64; omega)) (by unfold I64; omega)

theorem pullN_I64 {p : Prob} {S : List Int} {L : List (List Int)} : ∀ (l : List Edge) {M : List (List Int)}, I64s M → I64s (pullN p S L l M)
  | [], _, h => h
  | q :: l, _, h => pullN_I64 l (stepN_I64 h q)

def SomeN (p : Prob) (S : List Int) (L : List (List Int)) (E : Ends) : Prop := ∀ q ∈ edgesOf E, (firstC (nodeB2 p) (listsAt S (endsP L q)) []).isSome = true

theorem pair_some {p : Prob} {S : List Int} {L : List (List Int)} {E : Ends} (h : SomeN p S L E) {q : Edge} (hq : q ∈ edgesOf E) : firstC (nodeB2 p) (listsAt S (endsP L q)) [] = some (pairN p S L q) := by
  have := h q hq
  unfold pairN
  cases hG : firstC (nodeB2 p) (listsAt S (endsP L q)) [] with
  | none => rw [hG] at this; cases this
  | some c => rfl

theorem pair_len {p : Prob} {S : List Int} {L : List (List Int)} {E : Ends} (h : SomeN p S L E) {q : Edge} (hq : q ∈ edgesOf E) : (pairN p S L q).length = 2 := by
  obtain ⟨_, e, he, hce⟩ := firstC_spec (pair_some h hq)
  rw [hce, List.nil_append, prodL_len he, listsAt_len]
  rfl

theorem nodeB2_perm' {p : Prob} {c d : List Int} (h : c.Perm d) : nodeB2 p c = nodeB2 p d := by
  unfold nodeB2
  rw [sortI_congr h]

theorem node_sets {p : Prob} (hg : PGood p) : SetsOk (nodeSets p) := ⟨fun x hx => by
  obtain ⟨l, hl, hxl⟩ := (mem_setsOf (node_byte hg)).1 hx
  have h1 := (nodeFull_conf p l hl).vals x hxl
  have h3 := two_lab hg
  exact ⟨x.toNat, by omega, by omega, by omega⟩⟩

theorem node_some {p : Prob} {n : Net} {L : List (List Int)} (hc : Clean (nodeP p) n.ends L) : SomeN p (nodeSets p) L n.ends := fun q hq => by
  obtain ⟨v, i, e, hp, hf, rfl⟩ := mem_edgesOf.1 hq
  obtain ⟨hv, hi, hve⟩ := port_some hp
  have he : endOf n.ends v i = e := by unfold endOf; rw [endD hv hi]; exact hve
  have hN := (hc v hv).2 i
  have hE : EdgeIs (nodeP p) (at2 L v i) (at2 L e.1.toNat e.2.toNat) := Classical.byContradiction fun hn => hN ⟨by rw [rowD hv]; exact hi, by rw [he]; exact hf, by rw [he]; exact hn⟩
  have h1 : sortI [at2 L v i, at2 L e.1.toNat e.2.toNat] ∈ (msets (nodeSets p).length 2).filter fun c => (prodL (listsAt (nodeSets p) c)).any (nodeB2 p) := hE
  exact choice_perm nodeB2_perm' (List.mem_filter.1 h1).2

/-- An end that is its own. -/
def Stub (q : Edge) : Bool := q.1 == q.2.2.1 && q.2.1 == q.2.2.2
def Stubless (E : Ends) : Prop := ∀ v i, port E v i ≠ some ((v : Int), (i : Int))

theorem stubless_iff {n : Net} (hg : Good n) : (edgesOf n.ends).any Stub = false ↔ Stubless n.ends := by
  rw [List.any_eq_false]
  constructor
  · intro h v i hp
    have hm : ((v : Int), (i : Int), (v : Int), (i : Int)) ∈ edgesOf n.ends := mem_edgesOf.2 ⟨v, i, ((v : Int), (i : Int)), hp, by unfold isFirst; simp, rfl⟩
    exact h _ hm (by simp [Stub])
  · intro h q hq hs
    obtain ⟨v, i, x, y, rfl, hp, _⟩ := edge_at hg hq
    unfold Stub at hs
    simp only [Bool.and_eq_true, beq_iff_eq] at hs
    rw [← hs.1, ← hs.2] at hp
    exact h v i hp

structure PnAsked (p : Prob) (n : Net) (L : List (List Int)) : Prop where
  good : ndGood p
  net : Good n
  stub : Stubless n.ends
  lab : LabOk (nodeP p) n.ends L
  clean : Clean (nodeP p) n.ends L

theorem node_made {p : Prob} (h : ndGood p) : PGood (nodeP p) := (NdAsked.mk h.1 h.2.1 h.2.2).made

theorem node_small {p : Prob} (h : ndGood p) : SmallP (nodeP p) := by
  have hd := h.1.deg
  have h1 := h.2.2.2
  exact ⟨small_filter (k := p.degree.toNat) h1 (by omega) _, small_filter (k := 2) h1 (by omega) _⟩

def zeroM (L : List (List Int)) : List (List Int) := L.map fun r => List.replicate r.length 0

theorem zeroM_rows {E : Ends} {L : List (List Int)} (h : SameRows E L) : SameRows E (zeroM L) := by
  refine ⟨by simp [zeroM, h.1], fun u hu => ?_⟩
  have hu' : u < L.length := by simpa [zeroM] using hu
  rw [← h.2 u hu', rowD hu, rowD hu']
  simp [zeroM]

end Go.Proofs.YtndebacmnpghkaaGreat
end

section
/- Labels pulled through the node step, both sides. -/
namespace Go.Proofs.YtndebacmnpghkaaGreat
open Go.GX Go.RowKit
set_option maxRecDepth 100000

theorem store1 {w : World} {base : Nat} {s : Sl} {M : List (List Int)} {ss : List Sl} (h : RowsD w base T.t_int T.t_sl_int s M ss) {v i : Nat} (hv : v < M.length) (hi : i < M[v].length) {r1 : Sl} (h1 : ss[v]? = some r1) {c : Int} {p : Addr} (hp : Plc r1 i 1 p) {K : World → Prop}
    (hk : ∀ w1, Step w w1 r1.v.ownBlock → RowsD w1 base T.t_int T.t_sl_int s (M.set v (M[v].set i c)) ss → K w1) : GX.ST p 0 [.int .i64 c] w K := by
  have hO1 := h.row v r1 M[v] h1 (by simp [hv])
  exact ST_own hO1 hi hp c rfl fun w1 hO1' hs1 => hk w1 hs1 (h.chg (by decide) h1 hO1' hs1)

theorem edge_cells {n : Net} (hg : Good n) {M L : List (List Int)} (hM : SameRows n.ends M) (hL : SameRows n.ends L) {q : Edge} (hq : q ∈ edgesOf n.ends) :
    ∃ v i x y : Nat, q = ((v : Int), (i : Int), (x : Int), (y : Int)) ∧ (∃ (hv : v < M.length) (hx : x < M.length), i < M[v].length ∧ y < M[x].length) ∧ ∃ (hv : v < L.length) (hx : x < L.length), i < L[v].length ∧ y < L[x].length := by
  obtain ⟨v, i, x, y, rfl, hp, hb, hv, hx, _, _⟩ := edge_at hg hq
  obtain ⟨_, hi, _⟩ := port_some hp
  obtain ⟨_, hy, _⟩ := port_some hb
  have key : ∀ {M : List (List Int)}, SameRows n.ends M → ∃ (hv : v < M.length) (hx : x < M.length), i < M[v].length ∧ y < M[x].length := fun {M} hM => by
    have hvM : v < M.length := by rw [hM.1]; exact hv
    have hxM : x < M.length := by rw [hM.1]; exact hx
    have h1 := hM.2 v hvM
    have h2 := hM.2 x hxM
    rw [rowD hvM, rowD hv] at h1
    rw [rowD hxM, rowD hx] at h2
    exact ⟨hvM, hxM, by omega, by omega⟩
  exact ⟨v, i, x, y, rfl, key hM, key hL⟩

theorem ixID {D : Nat → Prop} {w : World} {s : Sl} {l : List Int} (h : SlR D w s l) {i : Nat} (hi : i < l.length) {K : Addr → Prop} (hk : ∀ p, D p.block → w.cell? p = some (.int .i64 l[i]) → K p) : IX s (i : Int) 1 K := by
  obtain ⟨a', cs, ha', hD', hrep, hc'⟩ := h.2.2 i _ (List.getElem?_eq_getElem hi)
  obtain ⟨rfl, _⟩ := hrep
  refine ⟨a', ha', by omega, by rw [h.len]; exact_mod_cast hi, hk _ ?_ ?_⟩
  · rw [add_block]; exact hD'
  · exact hc' 0 _ rfl

theorem get_of {l : List Int} {k : Nat} (hk : k < l.length) : l.getD k 0 = l[k] := by rw [List.getD_eq_getElem?_getD, List.getElem?_eq_getElem hk]; rfl

theorem set2_two {M : List (List Int)} {v i x y : Nat} (hv : v < M.length) (hx : x < M.length) (hy : y < M[x].length) (c d : Int) :
    ∃ (hxl : x < (M.set v (M[v].set i c)).length), y < ((M.set v (M[v].set i c))[x]'hxl).length ∧ set2 (set2 M v i c) x y d = (M.set v (M[v].set i c)).set x (((M.set v (M[v].set i c))[x]'hxl).set y d) := by
  have hxl : x < (M.set v (M[v].set i c)).length := by simpa using hx
  refine ⟨hxl, ?_, ?_⟩
  · rw [List.getElem_set]
    split
    · rename_i hvx; subst hvx; simpa using hy
    · exact hy
  · rw [set2_get hv, set2_get hxl]

theorem copyLists_ok {w : World} {s : Sl} {L : List (List Int)} (h : R w s L) (hl : L.length ≤ 1000) (hr : ∀ r ∈ L, r.length ≤ 1000) :
    Calls Tryz.prog F.i_copyLists #[s.v] w (Ret [.at .sl] fun (r : Sl) w' => Ext w w' ∧ ∃ ss, RowsD w' w.heap.size T.t_int T.t_sl_int r L ss) := by
  refine C_i_copyLists ?_
  unfold V_i_copyLists
  rw [h.len]
  refine RUN_make (α := Sl) slt_rows (d := ⟨none, 0, 0⟩) rfl (by omega) (by unfold maxLen; omega) fun t w1 hE1 hO1 => ?_
  have hz1 := hE1.size_le
  refine ⟨IN L.length fun i w' => Ext w w' ∧ ∃ ss, RowsD w' w.heap.size T.t_int T.t_sl_int t (L.take i ++ List.replicate (L.length - i) []) ss, MN L.length, IN_zero ⟨hE1, List.replicate L.length ⟨none, 0, 0⟩, ?_⟩, ?_⟩
  · refine ⟨by simpa using hO1, by simp, fun i r l hr hl => ?_, fun i j r q hr hq hij b hb => ?_⟩
    · rw [List.getElem?_replicate] at hr
      split at hr
      · cases hr
        simp only [List.take_zero, List.nil_append, List.getElem?_replicate, Nat.sub_zero] at hl
        split at hl <;> (cases hl; exact OwnL.nil _ _ _)
      · cases hr
    · rw [List.getElem?_replicate] at hr
      split at hr
      · cases hr; cases hb
      · cases hr
  rintro _ w2 ⟨i, rfl, hi, hE2, ss, hR2⟩
  intros
  refine cond_dec (fun hlt => ?_) (fun hge => ?_)
  · have hi' : i < L.length := by omega
    refine (h.ext hE2).ixL hi' fun q row hrow hc => LD_sl hc ?_
    refine call (clone_ok hrow.any (by have := hr _ (List.getElem_mem hi'); omega)) ?_
    rintro r w3 ⟨hE3, hO3⟩
    have hR3 := hR2.ext hE3
    have hil : i < (L.take i ++ List.replicate (L.length - i) ([] : List Int)).length := by simp; omega
    obtain ⟨r0, hr0, hO0⟩ := hR3.at hil
    have hz2 := hE2.size_le
    refine hR3.ixP hil fun p hp => ?_
    refine hR2.put (by decide) hil hr0 (hO3.low hz2) (Step.of_ext hE3 _) (.inr fun k hk => (hO3.blk k hk).1) hp fun w4 hR4 hs4 => ?_
    refine IN_next (by omega) hi' ⟨hs4.ext0 (hE2.trans hE3) fun k hk => (hR3.own.blk k hk).1, ss.set i r, ?_⟩
    have e : (L.take i ++ List.replicate (L.length - i) ([] : List Int)).set i L[i] = L.take (i + 1) ++ List.replicate (L.length - (i + 1)) [] := by
      have h1 : L.length - i = (L.length - (i + 1)) + 1 := by omega
      have h2 : (L.take i).length = i := by rw [List.length_take]; omega
      rw [h1, List.replicate_succ, List.take_succ_eq_append_getElem hi', List.set_append_right _ _ (by omega), h2, Nat.sub_self, List.set_cons_zero, List.append_assoc, List.singleton_append]
    rw [← e]
    exact hR4
  · have : i = L.length := by omega
    subst this
    rw [List.take_length, Nat.sub_self, List.replicate_zero, List.append_nil] at hR2
    exact ⟨hE2, ss, hR2⟩

theorem stub_ok (q : Edge) (w : World) : Calls Tryz.prog F.i_edge_stub (argsQ q) w (Ret [.at .bool] fun (b : Bool) w' => b = Stub q ∧ Ext w w') := by
  refine C_i_edge_stub ?_
  unfold V_i_edge_stub
  refine NEW_intro fun p w1 hp hs hE hb => LD_bi0 hb (LD_bi2 hb ?_)
  refine cond_eq (fun h1 => LD_bi1 hb (LD_bi3 hb ⟨by simp [Stub, h1], hE⟩)) (fun h1 => ⟨by simp [Stub, h1], hE⟩)

theorem two_labs {p : Prob} {n : Net} {L : List (List Int)} (h : LabOk (nodeP p) n.ends L) {q : Edge} {v i x y : Nat} (hq : q = ((v : Int), (i : Int), (x : Int), (y : Int))) (hv : v < L.length) (hi : i < L[v].length) (hx : x < L.length) (hy : y < L[x].length) :
    endsP L q = [L[v][i], L[x][y]] ∧ (0 ≤ L[v][i] ∧ L[v][i] < (nodeSets p).length) ∧ (0 ≤ L[x][y] ∧ L[x][y] < (nodeSets p).length) := by
  subst hq
  have h1 := h.labs _ (List.getElem_mem hv) _ (List.getElem_mem hi)
  have h2 := h.labs _ (List.getElem_mem hx) _ (List.getElem_mem hy)
  have e : (nodeP p).labels = ((nodeSets p).length : Nat) := rfl
  refine ⟨?_, by omega, by omega⟩
  show [at2 L (v : Int).toNat (i : Int).toNat, at2 L (x : Int).toNat (y : Int).toNat] = _
  simp only [Int.toNat_natCast]
  rw [at2_get hv hi, at2_get hx hy]

theorem PullNodeStep_ok {w : World} {c d a b e s : Sl} {p : Prob} {n : Net} {L : List (List Int)} (h : RProb w c d p) (hN : RNet w a b e n) (hl : R w s L) (hsp : SmallP p) (hn : Small n) (_hsl : SmallM L) :
    Calls Tryz.prog F.i_PullNodeStep #[.agg #[.int .i64 p.labels, .int .i64 p.degree, c.v, d.v], .agg #[a.v, b.v, e.v], s.v] w (Ret [.at .sl, .at .bool] fun (r : Sl) (y : Bool) w' => Ext w w' ∧ ∃ m, OutM w.heap.size w' r m ∧ AnsG (PnAsked p n L) (pullN p (nodeSets p) L (edgesOf n.ends) L) [] m y) := by
  refine C_i_PullNodeStep ?_
  unfold V_i_PullNodeStep
  refine NEW_intro fun pp w1 hp1 hs1 hE1 hb1 => NEW_intro fun pn w2 hp2 hs2 hE2 hb2 => ?_
  have hE := hE1.trans hE2
  replace h := h.ext hE
  replace hN := hN.ext hE
  replace hl := hl.ext hE
  replace hb1 := hb1.ext hE2
  refine LD_iiss hb1 ?_
  refine call (NodeStep_ok h hsp) ?_
  rintro x y z u S r w3 ⟨hE3, hr⟩
  replace hE := hE.ext hE3
  replace h := h.ext hE3
  replace hN := hN.ext hE3
  replace hl := hl.ext hE3
  replace hb1 := hb1.ext hE3
  replace hb2 := hb2.ext hE3
  refine NEW_ST (one4p _ _ _ _) rfl fun pq w4 hp4 hE4 hb4 => ?_
  replace hE := hE.ext hE4
  replace h := h.ext hE4
  replace hN := hN.ext hE4
  replace hl := hl.ext hE4
  replace hb1 := hb1.ext hE4
  replace hb2 := hb2.ext hE4
  rcases hr with ⟨rfl, hgd, rfl, rfl, hP⟩ | ⟨rfl, hn'⟩
  · replace hP := hP.ext hE4
    refine cond_not (fun hf => by cases hf) (fun _ => LD_box3 hb2 ?_)
    refine call (isNetwork_ok hN hn.2.2.1) ?_
    rintro t w6 ⟨ht, hE6⟩
    replace hE := hE.ext hE6
    replace h := h.ext hE6
    replace hN := hN.ext hE6
    replace hl := hl.ext hE6
    replace hb1 := hb1.ext hE6
    replace hb2 := hb2.ext hE6
    replace hb4 := hb4.ext hE6
    replace hP := hP.ext hE6
    refine cond_not (fun hfa => ⟨hE, [], OutM.nil _ _, .no fun hA => (by rw [ht.2 hA.net] at hfa; cases hfa)⟩) (fun ht2 => LD_box3 hb2 ?_)
    have hg := ht.1 ht2
    refine call (edges_ok hN hg) ?_
    rintro r3 w7 ⟨hE7, hO7⟩
    replace hE := hE.ext hE7
    replace h := h.ext hE7
    replace hN := hN.ext hE7
    replace hl := hl.ext hE7
    replace hb1 := hb1.ext hE7
    replace hb2 := hb2.ext hE7
    replace hb4 := hb4.ext hE7
    replace hP := hP.ext hE7
    refine call (containsFuncQ_ok (hO7.rep (edge_I64 hg)).any (p := Stub) fun q hq w' hw' => CALLV_mk (by kernel_rfl) (by simpa using stub_ok q w')) ?_
    rintro zz w8 ⟨hzz, hE8⟩
    replace hE := hE.ext hE8
    replace h := h.ext hE8
    replace hN := hN.ext hE8
    replace hl := hl.ext hE8
    replace hb1 := hb1.ext hE8
    replace hb2 := hb2.ext hE8
    replace hb4 := hb4.ext hE8
    replace hP := hP.ext hE8
    refine cond_b (fun ht => ⟨hE, [], OutM.nil _ _, .no fun hA => (by rw [hzz, (stubless_iff hg).2 hA.stub] at ht; cases ht)⟩) (fun hfs => LD_iiss hb4 (LD_box3 hb2 ?_))
    have hst : Stubless n.ends := (stubless_iff hg).1 (by rw [← hzz]; exact hfs)
    refine call (isSolution_ok (p := nodeP p) hP.prob (node_small hgd) (node_made hgd) hg hN hl) ?_
    rintro v w9 ⟨hv, hE9⟩
    replace hE := hE.ext hE9
    replace h := h.ext hE9
    replace hN := hN.ext hE9
    replace hl := hl.ext hE9
    replace hb1 := hb1.ext hE9
    replace hb2 := hb2.ext hE9
    replace hP := hP.ext hE9
    refine cond_not (fun hfa => ⟨hE, [], OutM.nil _ _, .no fun hA => (by rw [hv.2 ⟨hA.lab, hA.clean⟩] at hfa; cases hfa)⟩) (fun ht3 => ?_)
    obtain ⟨hLb, hCl⟩ := hv.1 ht3
    have hsome := node_some hCl
    have hLr := hLb.rows
    have h40 := hg.size.2
    have hLl : L.length ≤ 40 := by have := hLr.1; omega
    have hrl := row_len hg hLb
    have hLI : I64s L := fun r hr x hx => by
      have := hLb.labs _ hr x hx
      have e : (nodeP p).labels = ((nodeSets p).length : Nat) := rfl
      have := hgd.2.2.2
      unfold I64; omega
    have hzs := hE.size_le
    have hS8 := hgd.2.2.2
    unfold V_i_PullNodeStep_k1
    refine call (copyLists_ok hl (by omega) hrl) ?_
    rintro out w10 ⟨hE10, ss, hR10⟩
    refine LD_box3 (hb2.ext hE10) ?_
    refine call (edges_ok (hN.ext hE10) hg) ?_
    rintro r6 w11 ⟨hE11, hO11⟩
    rw [hO11.1]
    have hel := edgesTo_len hg n.ends.length (Nat.le_refl _)
    have hel2 : (edgesOf n.ends).length ≤ 240 := by unfold edgesOf; omega
    refine ⟨IN (edgesOf n.ends).length fun i w' => Ext w9 w' ∧ OwnL w' w10.heap.size T.t_i_edge r6 (edgesOf n.ends) ∧ RowsD w' w9.heap.size T.t_int T.t_sl_int out (pullN p (nodeSets p) L ((edgesOf n.ends).take i) L) ss, MN (edgesOf n.ends).length, IN_zero ⟨hE10.trans hE11, hO11, by simpa [pullN] using hR10.ext hE11⟩, ?_⟩
    rintro _ w12 ⟨i, rfl, hi, hE12, hO12, hR12⟩
    intros
    have hMr := pullN_rows (p := p) (S := nodeSets p) (L := L) ((edgesOf n.ends).take i) hLr
    have hMI := pullN_I64 (p := p) (S := nodeSets p) (L := L) ((edgesOf n.ends).take i) hLI
    refine cond_dec (fun hlt => ?_) (fun hge => ?_)
    · have hi' : i < (edgesOf n.ends).length := by omega
      have hqm := List.getElem_mem hi'
      have hsn : pullN p (nodeSets p) L ((edgesOf n.ends).take (i + 1)) L = stepN p (nodeSets p) L (pullN p (nodeSets p) L ((edgesOf n.ends).take i) L) (edgesOf n.ends)[i] := by rw [List.take_succ_eq_append_getElem hi', pullN_snoc]
      generalize pullN p (nodeSets p) L ((edgesOf n.ends).take i) L = M at *
      obtain ⟨v, pi, x, y, hq, ⟨hv, hx, hpi, hy⟩, hvL, hxL, hpiL, hyL⟩ := edge_cells hg hMr hLr hqm
      obtain ⟨he, ha1, ha2⟩ := two_labs hLb hq hvL hpiL hxL hyL
      have hps := pair_some hsome hqm
      have hC2 := pair_len hsome hqm
      have hC8 := pair_labs p (nodeSets p) L (edgesOf n.ends)[i]
      rw [he] at hps
      have hst2 : stepN p (nodeSets p) L M (edgesOf n.ends)[i] = set2 (set2 M v pi ((pairN p (nodeSets p) L (edgesOf n.ends)[i]).getD 0 0)) x y ((pairN p (nodeSets p) L (edgesOf n.ends)[i]).getD 1 0) := by
        unfold stepN
        generalize pairN p (nodeSets p) L (edgesOf n.ends)[i] = C
        rw [hq]
        rfl
      rw [hst2] at hsn
      generalize pairN p (nodeSets p) L (edgesOf n.ends)[i] = C at *
      have hCI : ∀ z ∈ C, I64 z := fun z hz => by have := hC8 z hz; unfold I64; omega
      rw [get_of (k := 0) (by omega), get_of (k := 1) (by omega)] at hsn
      refine (hO12.rep (edge_I64 hg)).any.ixQ hi' fun qa hc0 hc1 hc2 hc3 => LD_int4 hc0 hc1 hc2 hc3 ?_
      rw [hq]
      refine NEW_ST (vs := [.int .i64 (v : Int), .int .i64 (pi : Int), .int .i64 (x : Int), .int .i64 (y : Int)]) (by intro u hu; simp at hu; rcases hu with rfl | rfl | rfl | rfl <;> rfl) rfl fun pe w15 hpe hE15 hbe => ?_
      intro w16 hE16 _
      have hE56 := hE15.trans hE16
      replace hE12 := hE12.ext hE56
      replace hO12 := hO12.ext hE56
      replace hR12 := hR12.ext hE56
      replace hbe := hbe.ext hE16
      have hl16 := hl.ext hE12
      refine LD_iiss (hb1.ext hE12) (LD_bi0 hbe (hl16.ixL hvL fun qv rv hrv hcv => LD_sl hcv (LD_bi1 hbe (hrv.ixI hpiL fun q1 hI1 hc1 => LD_int hc1 (LD_bi2 hbe (hl16.ixL hxL fun qx rx hrx hcx => LD_sl hcx ⟨Ext.refl _, LD_bi3 hbe ⟨Ext.refl _, hrx.ixI hyL fun q2 hI2 hc2 => ⟨Ext.refl _, LD_int hc2 ⟨Ext.refl _, ?_⟩⟩⟩⟩))))))
      refine RUN_lits slt_int [L[v][pi], L[x][y]] (by simp) (by simp) rfl rfl fun x71 w17 hE17 hO17 => ⟨hE17, ?_⟩
      have hE917 := hE12.trans hE17
      refine call (listsOf_ok (hP.sets.ext hE917).any (hO17.rep (by intro z hz; simp at hz; rcases hz with rfl | rfl; exact hI1; exact hI2)).any (node_sets hgd.1).byte (by intro z hz; simp at hz; rcases hz with rfl | rfl; exact ha1; exact ha2) (by simp)) ?_
      rintro x72 w18 ⟨hE18, ssl, hR18⟩
      have hE918 := hE917.trans hE18
      have h64l : ∀ r ∈ listsAt (nodeSets p) [L[v][pi], L[x][y]], ∀ z ∈ r, I64 z := fun r hr z hz => by
        obtain ⟨u, _, rfl⟩ := List.mem_map.1 hr
        exact labsOf_I64 _ z hz
      refine ⟨hE17.trans hE18, call (edgeChoice_ok (h.ext hE918) hsp hgd.1 (hR18.rep h64l) rfl) ?_⟩
      rintro x73 bb w19 ⟨hE19, hm⟩
      rw [hps] at hm
      obtain ⟨rfl, hOc⟩ := hm
      have hE1619 := (hE17.trans hE18).trans hE19
      refine ⟨hE1619, hE1619, hE1619, cond_f rfl ?_⟩
      intro w20 hE20 _
      have hzw := (hE17.trans hE18).size_le
      have hE1620 := hE1619.trans hE20
      have hRc := (hOc.ext hE20).rep hCI
      obtain ⟨ra, hra, hOa16⟩ := hR12.at hv
      obtain ⟨rb, hrb, hOb16⟩ := hR12.at hx
      have hnc : ∀ k, w18.heap.size ≤ k → ¬ (oB ra k ∨ oB rb k) := fun k hk hh => by
        rcases hh with hh | hh
        · have := (hOa16.blk k hh).2; omega
        · have := (hOb16.blk k hh).2; omega
      replace hE12 := hE12.ext hE1620
      replace hO12 := hO12.ext hE1620
      replace hR12 := hR12.ext hE1620
      replace hbe := hbe.ext hE1620
      replace hOa16 := hOa16.ext hE1620
      replace hOb16 := hOb16.ext hE1620
      have hnb : ¬ (oB ra pe.block ∨ oB rb pe.block) := fun hh => hh.elim (hbe.notOwn hOa16 (by decide)) (hbe.notOwn hOb16 (by decide))
      have hns : ∀ k, out.v.ownBlock = some k → ¬ (oB ra k ∨ oB rb k) := fun k hk hh => hh.elim (fun h1 => hR12.block_ne (by decide) hra h1 hk) (fun h1 => hR12.block_ne (by decide) hrb h1 hk)
      refine ⟨fun k => oB ra k ∨ oB rb k, by rw [add_block]; exact hnb, LD_bi0 hbe ?_⟩
      refine hR12.ix hv fun pa' ra' hra' hOa' hca' hba' => ⟨hns _ hba', LD_sl hca' ?_⟩
      rw [hra] at hra'; cases hra'
      refine ⟨by rw [add_block]; exact hnb, LD_bi1 hbe ⟨by rw [add_block]; exact hnb, LD_bi2 hbe ?_⟩⟩
      refine hR12.ix hx fun pb' rb' hrb' hOb' hcb' hbb' => ⟨hns _ hbb', LD_sl hcb' ?_⟩
      rw [hrb] at hrb'; cases hrb'
      refine ⟨by rw [add_block]; exact hnb, LD_bi3 hbe ?_⟩
      refine ixID hRc (i := 0) (by omega) fun p0 hd0 hcc0 => ⟨hnc _ hd0, LD_int hcc0 ⟨Chg.refl _ _, ?_⟩⟩
      refine ixID hRc (i := 1) (by omega) fun p1 hd1 hcc1 => ⟨Chg.refl _ _, LD_int hcc1 ⟨Chg.refl _ _, ?_⟩⟩
      refine IX_own hOa' hpi rfl fun p1 hp1 => ⟨Chg.refl _ _, ?_⟩
      obtain ⟨hxl, hyl, hst3⟩ := set2_two (i := pi) hv hx hy C[0] C[1]
      refine store1 hR12 hv hpi hra hp1 fun w21 hs21 hR21 => ⟨.of_step hs21 fun k hk => .inl hk, ?_⟩
      have hO21 := hR21.row x rb _ hrb (List.getElem?_eq_getElem hxl)
      refine IX_own hO21 hyl rfl fun p2 hp2 => store1 hR21 hxl hyl hrb hp2 fun w22 hs22 hR22 => ?_
      rw [← hst3] at hR22
      have hlow := fun k hk => (hOa'.blk k hk).1
      have hlow2 := fun k hk => (hOb'.blk k hk).1
      refine IN_next (by omega) hi' ⟨hs22.ext0 (hs21.ext0 hE12 fun k hk => hlow k hk) fun k hk => hlow2 k hk, ?_, by rw [hsn]; exact hR22⟩
      exact (hO12.step hOa' (by decide) hs21).step hO21 (by decide) hs22
    · have : i = (edgesOf n.ends).length := by omega
      subst this
      rw [List.take_length] at hR12 hMr hMI
      refine ⟨hE.trans hE12, _, ⟨⟨ss, hR12.low hzs⟩, hMI, by rw [hMr.1]; omega, fun r hr => ?_⟩, .yes ⟨hgd, hg, hst, hLb, hCl⟩⟩
      obtain ⟨u, hu, rfl⟩ := List.mem_iff_getElem.1 hr
      have hu' : u < n.ends.length := by rw [← hMr.1]; exact hu
      have h1 := hMr.2 u hu
      rw [rowD hu, rowD hu'] at h1
      have := hg.deg hu'
      omega
  · refine cond_not (fun _ => ⟨hE, [], OutM.nil _ _, .no fun hA => hn' hA.good⟩) (fun ht => by cases ht)

end Go.Proofs.YtndebacmnpghkaaGreat
end

section
/- One round of elimination, refusals of zero rounds, endless problems: both sides. -/
namespace Go.Proofs.YtndebacmnpghkaaGreat
open Go.GX Go.RowKit
set_option maxRecDepth 100000

/-- What a round answers. -/
def RdIs (w : World) (q : Prob) (few : Prop) (S : List Int) (x y : Int) (z u _a1 a2 : Sl) (b : Bool) (w' : World) : Prop :=
  Ext w w' ∧ ((b = true ∧ few ∧ x = q.labels ∧ y = q.degree ∧ NewP w.heap.size w' z u a2 q S) ∨ (b = false ∧ ¬ few))

def roundP (p : Prob) : Prob := nodeP (edgeP p)
def rdFew (p : Prob) : Prop := edFew p ∧ ndFew (edgeP p)
def rdGood (p : Prob) : Prop := PGood p ∧ rdFew p

theorem made_round {p : Prob} (hg : PGood p) (h : rdFew p) : PGood (roundP p) := node_made' (edge_made ⟨hg, h.1⟩) h.2
where node_made' {q : Prob} (hq : PGood q) (h : ndFew q) : PGood (nodeP q) := (NdAsked.mk hq h.1 h.2).made

theorem small_round {p : Prob} (hg : PGood p) (h : rdFew p) : SmallP (roundP p) := by
  have hq := edge_made ⟨hg, h.1⟩
  have hd := hq.deg
  have h1 := h.2.2.2
  exact ⟨small_filter (k := (edgeP p).degree.toNat) h1 (by omega) _, small_filter (k := 2) h1 (by omega) _⟩

theorem eliminate_ok {w : World} {c d : Sl} {p : Prob} (h : RProb w c d p) (hs : SmallP p) (hg : PGood p) :
    Calls Tryz.prog F.i_eliminate #[.agg #[.int .i64 p.labels, .int .i64 p.degree, c.v, d.v]] w (Ret [.agg [.int .i64, .int .i64, .sl, .sl], .at .sl, .at .sl, .at .bool] (RdIs w (roundP p) (rdFew p) (nodeSets (edgeP p)))) := by
  refine C_i_eliminate ?_
  unfold V_i_eliminate
  refine NEW_intro fun pp w1 hp1 hs1 hE1 hb1 => NEW_intro fun px w2 hp2 hs2 hE2 hb2 => ?_
  have hE := hE1.trans hE2
  have hz1 := hE1.size_le
  replace h := h.ext hE
  replace hb1 := hb1.ext hE2
  refine LD_iiss hb1 ?_
  refine call (edgeStep_ok h hs hg) ?_
  rintro x y z u a b w3 ⟨hE3, hr⟩
  replace hE := hE.ext hE3
  replace hb1 := hb1.ext hE3
  replace hb2 := hb2.ext hE3
  refine NEW_ST (one4p _ _ _ _) rfl fun pq w5 hpq hE5 hbq => ?_
  replace hE := hE.ext hE5
  replace hb1 := hb1.ext hE5
  replace hb2 := hb2.ext hE5
  rcases hr with ⟨rfl, hfe, rfl, rfl, hP⟩ | ⟨rfl, hno⟩
  · replace hP := hP.ext hE5
    have hgq := edge_made ⟨hg, hfe⟩
    refine cond_not (fun hf => by cases hf) (fun _ => LD_iiss hbq ?_)
    refine call (nodeStep_ok (p := edgeP p) hP.prob (edge_small ⟨hg, hfe⟩) hgq) ?_
    rintro x' y' z' u' a' b' w7 ⟨hE7, hr'⟩
    have hz5 := hE.size_le
    have hl2 := hb2.lt
    replace hE := hE.ext hE7
    replace hb1 := hb1.ext hE7
    replace hb2 := hb2.ext hE7
    refine NEW_ST (one4p _ _ _ _) rfl fun pr w9 hpr hE9 hbr => ?_
    replace hE := hE.ext hE9
    replace hb1 := hb1.ext hE9
    replace hb2 := hb2.ext hE9
    rcases hr' with ⟨rfl, hfn, rfl, rfl, hP'⟩ | ⟨rfl, hno'⟩
    · refine cond_not (fun hf => by cases hf) (fun _ => LD_iiss hbr ?_)
      refine ST_all hb2 (one4p _ _ _ _) rfl fun w11 hs11 hz11 hb11 => LD_iiss hb11 ?_
      exact ⟨hs11.ext0 hE fun k hk => by cases hk; omega, .inl ⟨rfl, ⟨hfe, hfn⟩, rfl, rfl, ((hP'.ext hE9).step hs11 (by omega)).low hz5⟩⟩
    · refine cond_not (fun _ => ?_) (fun ht => by cases ht)
      exact zero_problem hE hb2 (by omega) fun w' hE' => ⟨hE', .inr ⟨rfl, fun hA => hno' hA.2⟩⟩
  · refine cond_not (fun _ => ?_) (fun ht => by cases ht)
    exact zero_problem hE hb2 (by omega) fun w' hE' => ⟨hE', .inr ⟨rfl, fun hA => hno hA.1⟩⟩

theorem sEliminateRound_ok {w : World} {c d : Sl} {p : Prob} (h : RProb w c d p) :
    Calls Tryz.prog F.s_EliminateRound #[.agg #[.int .i64 p.labels, .int .i64 p.degree, c.v, d.v]] w (Ret [.agg [.int .i64, .int .i64, .sl, .sl], .at .sl, .at .sl, .at .bool] (RdIs w (roundP p) (rdGood p) (nodeSets (edgeP p)))) := by
  refine C_s_EliminateRound ?_
  unfold V_s_EliminateRound
  refine NEW_intro fun pp w1 hp1 hs1 hE1 hb1 => NEW_intro fun px w2 hp2 hs2 hE2 hb2 => ?_
  have hE := hE1.trans hE2
  have hz1 := hE1.size_le
  replace h := h.ext hE
  replace hb1 := hb1.ext hE2
  refine LD_iiss hb1 ?_
  refine call (sEdgeStep_ok h) ?_
  rintro x y z u a b w3 ⟨hE3, hr⟩
  replace hE := hE.ext hE3
  replace hb1 := hb1.ext hE3
  replace hb2 := hb2.ext hE3
  refine NEW_ST (one4p _ _ _ _) rfl fun pq w5 hpq hE5 hbq => ?_
  replace hE := hE.ext hE5
  replace hb1 := hb1.ext hE5
  replace hb2 := hb2.ext hE5
  rcases hr with ⟨rfl, hfe, rfl, rfl, hP⟩ | ⟨rfl, hno⟩
  · replace hP := hP.ext hE5
    have hgq := edge_made hfe
    refine cond_not (fun hf => by cases hf) (fun _ => LD_iiss hbq ?_)
    refine call (elNode_ok (p := edgeP p) hP.prob hgq) ?_
    rintro x' y' z' u' a' b' w7 ⟨hE7, hr'⟩
    have hz5 := hE.size_le
    have hl2 := hb2.lt
    replace hE := hE.ext hE7
    replace hb1 := hb1.ext hE7
    replace hb2 := hb2.ext hE7
    refine NEW_ST (one4p _ _ _ _) rfl fun pr w9 hpr hE9 hbr => ?_
    replace hE := hE.ext hE9
    replace hb1 := hb1.ext hE9
    replace hb2 := hb2.ext hE9
    rcases hr' with ⟨rfl, hfn, rfl, rfl, hP'⟩ | ⟨rfl, hno'⟩
    · refine cond_not (fun hf => by cases hf) (fun _ => LD_iiss hbr ?_)
      refine ST_all hb2 (one4p _ _ _ _) rfl fun w11 hs11 hz11 hb11 => LD_iiss hb11 ?_
      exact ⟨hs11.ext0 hE fun k hk => by cases hk; omega, .inl ⟨rfl, ⟨hfe.1, hfe.2, hfn⟩, rfl, rfl, ((hP'.ext hE9).step hs11 (by omega)).low hz5⟩⟩
    · refine cond_not (fun _ => ?_) (fun ht => by cases ht)
      exact zero_problem hE hb2 (by omega) fun w' hE' => ⟨hE', .inr ⟨rfl, fun hA => hno' hA.2.2⟩⟩
  · refine cond_not (fun _ => ?_) (fun ht => by cases ht)
    exact zero_problem hE hb2 (by omega) fun w' hE' => ⟨hE', .inr ⟨rfl, fun hA => hno ⟨hA.1, hA.2.1⟩⟩⟩

/-! ### Refusals of zero rounds -/

def zTwo (p : Prob) (r c : List Int) : Bool := decide (r.length = 2) && (c.contains (r.getD 0 0) && (c.contains (r.getD 1 0) && !(edgeB p (r.getD 0 0) (r.getD 1 0))))
def ZOk (p : Prob) (ps : List (List Int)) : Prop := ps.length = p.nodes.length ∧ ∀ i, i < p.nodes.length → zTwo p (ps.getD i []) (p.nodes.getD i []) = true

theorem ZOk.no {p : Prob} {ps : List (List Int)} {i : Nat} (hi : i < p.nodes.length) (hf : zTwo p (ps.getD i []) (p.nodes.getD i []) = false) : ¬ ZOk p ps := fun h => by
  have := h.2 i hi
  rw [hf] at this; cases this

/-! ### Endless problems -/

def EdAns (p : Prob) (f : List Int) (ps : List (List Int)) (x ok : Bool) : Prop := (ok = true ∧ rdGood p ∧ (x = true ↔ MapOk (roundP p) p f ∧ ZOk p ps)) ∨ (ok = false ∧ x = false ∧ ¬ rdGood p)

theorem EdAns.eq {p : Prob} {f : List Int} {ps : List (List Int)} {x ok y ok' : Bool} (h : EdAns p f ps x ok) (h' : EdAns p f ps y ok') : x = y ∧ ok = ok' := by
  rcases h with ⟨rfl, h1, h2⟩ | ⟨rfl, rfl, h1⟩
  · rcases h' with ⟨rfl, _, h3⟩ | ⟨rfl, rfl, h3⟩
    · exact ⟨by rw [Bool.eq_iff_iff, h2, h3], rfl⟩
    · exact absurd h1 h3
  · rcases h' with ⟨rfl, h3, _⟩ | ⟨rfl, rfl, h3⟩
    · exact absurd h3 h1
    · exact ⟨rfl, rfl⟩
end Go.Proofs.YtndebacmnpghkaaGreat
end

section
/- Lists of problems as arguments. -/
namespace Go.Proofs.YtndebacmnpghkaaGreat
open Go.GX Go.RowKit
set_option maxRecDepth 100000

instance : Rep Prob where
  sz := 4
  rep D w cs q := ∃ z u : Sl, cs = [.int .i64 q.labels, .int .i64 q.degree, z.v, u.v] ∧ I64 q.labels ∧ I64 q.degree ∧ SlR D w z q.nodes ∧ SlR D w u q.edges
  len h := by obtain ⟨z, u, rfl, _⟩ := h; rfl
  agr hE h := by obtain ⟨z, u, rfl, a, b, c, d⟩ := h; exact ⟨z, u, rfl, a, b, c.agr hE, d.agr hE⟩
  weak hD h := by obtain ⟨z, u, rfl, a, b, c, d⟩ := h; exact ⟨z, u, rfl, a, b, c.weak hD RepP.pos, d.weak hD RepP.pos⟩
instance : RepP Prob := ⟨by decide⟩

/-- The cells of a problem at a place. -/
def PCells (w : World) (p : Addr) (q : Prob) (z u : Sl) : Prop := ∀ (j : Nat) (v : Value), [Value.int .i64 q.labels, .int .i64 q.degree, z.v, u.v][j]? = some v → w.cell? (p.add j) = some v

theorem LD_pcells {w : World} {p : Addr} {q : Prob} {z u : Sl} {K : Int → Int → Sl → Sl → Prop} (hc : PCells w p q z u) (hk : K q.labels q.degree z u) : LD [.int .i64, .int .i64, .sl, .sl] p w K :=
  ⟨[.int .i64 q.labels, .int .i64 q.degree, z.v, u.v], rfl, fun i v hv => hc i v hv, hk⟩
theorem slr_ixP {D : Nat → Prop} {w : World} {s : Sl} {l : List Prob} (h : SlR D w s l) {i : Nat} (hi : i < l.length) {K : Addr → Prop} (hk : ∀ p z u, RProb w z u l[i] → PCells w p l[i] z u → K p) : IX s i 4 K :=
  h.ix rfl (by omega) (by omega) fun p cs hr hc => by
    obtain ⟨z, u, rfl, a, b, c, d⟩ := hr
    exact hk p z u ⟨a, b, c.any, d.any⟩ hc

/-! ### Copies of lists of problems -/

/-- What the cells of a copy hold. -/
structure PRec where
  x : Int
  y : Int
  z : Sl
  u : Sl

instance : Rep PRec where
  sz := 4
  rep _ _ cs r := cs = [.int .i64 r.x, .int .i64 r.y, r.z.v, r.u.v]
  len h := by rw [h]; rfl
  agr _ h := h
  weak _ h := h
instance : RepP PRec := ⟨by decide⟩
instance : Flat PRec where
  cells r := [.int .i64 r.x, .int .i64 r.y, r.z.v, r.u.v]
  ok _ := True
  size _ := rfl
  one r v hv := one4p r.x r.y r.z r.u v hv
  repOk _ := rfl
  ofRep h := ⟨h, trivial⟩

theorem slt_prob : SlT Tryz.prog T.t_sl_i_Problem T.t_i_Problem 4 64 (.agg #[.int .i64 0, .int .i64 0, .slice none 0 0, .slice none 0 0]) := ⟨by kernel_rfl, by kernel_rfl, rfl, by decide⟩

/-- A record that stands for a problem, its lists in blocks from a number on. -/
structure RecOf (D : Nat → Prop) (w : World) (r : PRec) (q : Prob) : Prop where
  x : r.x = q.labels
  y : r.y = q.degree
  lab : I64 q.labels
  deg : I64 q.degree
  nodes : SlR D w r.z q.nodes
  edges : SlR D w r.u q.edges

theorem RecOf.ext {D : Nat → Prop} {w w' : World} {r : PRec} {q : Prob} (h : RecOf D w r q) (hE : Ext w w') : RecOf D w' r q := ⟨h.x, h.y, h.lab, h.deg, h.nodes.ext hE, h.edges.ext hE⟩
theorem RecOf.step {D : Nat → Prop} {w w' : World} {r : PRec} {q : Prob} {g : Option Nat} (h : RecOf D w r q) (hs : Step w w' g) (hD : ∀ b, D b → g ≠ some b) : RecOf D w' r q := ⟨h.x, h.y, h.lab, h.deg, h.nodes.stepD hs hD, h.edges.stepD hs hD⟩

theorem recs_rep {w : World} {base : Nat} {e : TypeId} {s : Sl} {rs : List PRec} {l : List Prob} {D D' : Nat → Prop} (h : OwnL w base e s rs) (hlen : rs.length = l.length) (hr : ∀ j (h1 : j < rs.length) (h2 : j < l.length), RecOf D w rs[j] l[j]) (hD : ∀ b, D b → D' b) (hb : ∀ b, base ≤ b → D' b) : SlR D' w s l := by
  have h0 := h.rep (fun _ _ => trivial)
  refine ⟨by rw [h0.1, hlen], h0.2.1, fun i x hx => ?_⟩
  obtain ⟨h2, rfl⟩ := List.getElem?_eq_some_iff.1 hx
  have h1 : i < rs.length := by omega
  obtain ⟨a, cs, ha, hb', hcs, hc⟩ := h0.2.2 i rs[i] (by simp [h1])
  have hcs' : cs = [.int .i64 rs[i].x, .int .i64 rs[i].y, rs[i].z.v, rs[i].u.v] := hcs
  subst hcs'
  have hR := hr i h1 h2
  exact ⟨a, _, ha, hb _ hb', ⟨rs[i].z, rs[i].u, by rw [hR.x, hR.y], hR.lab, hR.deg, hR.nodes.weak (fun b h _ => hD b h) RepP.pos, hR.edges.weak (fun b h _ => hD b h) RepP.pos⟩, hc⟩

end Go.Proofs.YtndebacmnpghkaaGreat
end

section
/- Labels pulled through the node step, the reference. -/
namespace Go.Proofs.YtndebacmnpghkaaGreat
open Go.GX Go.RowKit
set_option maxRecDepth 100000

theorem elStubless_ok {w : World} {a b c : Sl} {n : Net} (h : RNet w a b c n) (hg : Good n) :
    Calls Tryz.prog F.s_elStubless #[.agg #[a.v, b.v, c.v]] w (Ret [.at .bool] fun (x : Bool) w' => (x = true ↔ Stubless n.ends) ∧ Ext w w') := by
  refine C_s_elStubless ?_
  unfold V_s_elStubless
  refine NEW_intro fun pn w1 hp1 hs1 hE1 hb1 => LD_bs0 hb1 ?_
  have hE := (h.ext hE1).1
  have h40 := hg.size.2
  rw [hE.len]
  refine ⟨IN n.ends.length fun v w' => Ext w1 w' ∧ ∀ u i, u < v → port n.ends u i ≠ some ((u : Int), (i : Int)), MN n.ends.length, IN_zero ⟨Ext.refl _, fun u i hu => absurd hu (by omega)⟩, ?_⟩
  rintro _ w2 ⟨v, rfl, hv, hE2, hI⟩
  intros
  refine cond_dec (fun hlt => ?_) (fun hge => ?_)
  · have hv' : v < n.ends.length := by omega
    refine (hE.ext hE2).ixL hv' fun q row hrow hc => LD_sl hc ?_
    have hd := hg.deg hv'
    rw [hrow.len]
    refine ⟨IN n.ends[v].length fun j w' => Ext w2 w' ∧ ∀ i, i < j → port n.ends v i ≠ some ((v : Int), (i : Int)), MN n.ends[v].length, IN_zero ⟨Ext.refl _, fun i hi => absurd hi (by omega)⟩, ?_⟩
    rintro _ w3 ⟨j, rfl, hj, hE3, hJ⟩
    intros
    refine cond_dec (fun hlt2 => ?_) (fun hge2 => ?_)
    · have hj' : j < n.ends[v].length := by omega
      refine (hrow.ext hE3).ixE hj' fun q hI0 hI1 hc0 hc1 => LD_int2 hc0 hc1 ?_
      refine NEW_ST (one2 _ _) rfl fun pe w5 hpe hE5 hbe => LD_box2 hbe ?_
      refine AEQ_eql2 end_struct ?_
      refine cond_dec (fun heq => ⟨⟨fun hf => (by cases hf), fun hS => absurd (by rw [port_get hv' hj']; exact congrArg some heq) (hS v j)⟩, hE1.trans (hE2.trans (hE3.trans hE5))⟩) (fun hne => ?_)
      refine IN_next (by omega) hj' ⟨hE3.trans hE5, fun i hi => ?_⟩
      by_cases hij : i = j
      · subst hij
        rw [port_get hv' hj']
        intro hh
        exact hne (Option.some.inj hh)
      · exact hJ i (by omega)
    · have : j = n.ends[v].length := by omega
      subst this
      refine IN_next (by omega) hv' ⟨hE2.trans hE3, fun u i hu => ?_⟩
      by_cases huv : u = v
      · subst huv
        by_cases hi : i < n.ends[u].length
        · exact hJ i hi
        · intro hp
          obtain ⟨_, hi', _⟩ := port_some hp
          exact hi hi'
      · exact hI u i (by omega)
  · have : v = n.ends.length := by omega
    subst this
    refine ⟨⟨fun _ u i hp => ?_, fun _ => rfl⟩, hE1.trans hE2⟩
    obtain ⟨hu, _, _⟩ := port_some hp
    exact hI u i hu hp

theorem elPullNode_ok {w : World} {c d a b e s t : Sl} {p : Prob} {n : Net} {L : List (List Int)} (h : RProb w c d p) (hgd : ndGood p) (hS : R w s (nodeSets p)) (hN : RNet w a b e n) (hg : Good n) (hl : R w t L) (hLb : LabOk (nodeP p) n.ends L) (hCl : Clean (nodeP p) n.ends L) :
    Calls Tryz.prog F.s_elPullNode #[.agg #[.int .i64 p.labels, .int .i64 p.degree, c.v, d.v], s.v, .agg #[a.v, b.v, e.v], t.v] w (Ret [.at .sl] fun (r : Sl) w' => Ext w w' ∧ R w' r (pullN p (nodeSets p) L (edgesOf n.ends) L)) := by
  refine C_s_elPullNode ?_
  unfold V_s_elPullNode
  refine NEW_intro fun pp w1 hp1 hs1 hE1 hb1 => NEW_intro fun pn w2 hp2 hs2 hE2 hb2 => ?_
  have hE := hE1.trans hE2
  replace h := h.ext hE
  replace hS := hS.ext hE
  replace hN := hN.ext hE
  replace hl := hl.ext hE
  replace hb1 := hb1.ext hE2
  have hsome := node_some hCl
  have hLr := hLb.rows
  have h40 := hg.size.2
  have hLl : L.length ≤ 40 := by have := hLr.1; omega
  have hrl := row_len hg hLb
  have hS8 := hgd.2.2.2
  have hSB := node_sets hgd.1
  rw [hl.len]
  refine ⟨IN2 L.length fun i (out : Sl) w' => Ext w2 w' ∧ ∃ ss, RowsD w' w2.heap.size T.t_int T.t_sl_int out (zeroM (L.take i)) ss, MN2 L.length, IN2_zero ⟨Ext.refl _, [], by simpa [zeroM] using RowsD.nil _ _ _ _⟩, ?_⟩
  rintro out _ w3 ⟨i, rfl, hi, hE3, ss, hR3⟩
  intros
  refine cond_dec (fun hlt => ?_) (fun hge => ?_)
  · have hi' : i < L.length := by omega
    refine (hl.ext hE3).ixL hi' fun q row hrow hc => LD_sl hc ?_
    have hri := hrl _ (List.getElem_mem hi')
    rw [hrow.len]
    refine RUN_makeI rfl (by omega) fun r w4 hE4 hO4 => ?_
    refine RUN_lit1 (α := Sl) slt_rows r rfl (by decide) fun y w5 hE5 hO5 => ?_
    have hz3 := hE3.size_le
    have hE35 := hE4.trans hE5
    have hR5 := hR3.ext hE35
    have hll : (zeroM (L.take i)).length = i := by unfold zeroM; rw [List.length_map, List.length_take]; omega
    refine RUN_append_rowD slt_rows (by decide) hR5 (by have := hE35.size_le; omega) ((hO4.ext hE5).low hz3) (hR3.fresh (hO4.ext hE5) (Nat.le_refl _)) hO5 (by omega) (by unfold maxLen; omega) fun s' w6 hR6 hs6 => ?_
    refine IN2_next hl.le hi' ⟨hs6.ext0 (hE3.trans hE35) fun k hk => (hR5.own.blk k hk).1, ss ++ [r], ?_⟩
    have e1 : zeroM (L.take (i + 1)) = zeroM (L.take i) ++ [List.replicate L[i].length 0] := by
      unfold zeroM
      rw [List.take_succ_eq_append_getElem hi', List.map_append]; rfl
    rw [e1]
    exact hR6
  · have : i = L.length := by omega
    subst this
    rw [List.take_length] at hR3
    refine LD_box3 (hb2.ext hE3) ?_
    refine call (neEdges_ok (hN.ext hE3) hg) ?_
    rintro r7 w7 ⟨hE7, hO7⟩
    have hL7 := hO7.repD (four_ok hg)
    have hlen4 : ((edgesOf n.ends).map four).length = (edgesOf n.ends).length := by simp
    have hel := edgesTo_len hg n.ends.length (Nat.le_refl _)
    have hel2 : (edgesOf n.ends).length ≤ 240 := by unfold edgesOf; omega
    rw [hL7.len, hlen4]
    have hss : ∀ (j : Nat) (q : Sl), ss[j]? = some q → ∀ k, q.v.ownBlock = some k → k < w3.heap.size := fun j q hq k hk => by
      have hj : j < (zeroM L).length := by rw [← hR3.len]; exact (List.getElem?_eq_some_iff.1 hq).1
      exact ((hR3.row j q _ hq (List.getElem?_eq_getElem hj)).blk k hk).2
    have hZr := zeroM_rows hLr
    have hZI : I64s (zeroM L) := fun r hr x hx => by
      unfold zeroM at hr
      obtain ⟨u, _, rfl⟩ := List.mem_map.1 hr
      rw [List.eq_of_mem_replicate hx]
      unfold I64; omega
    refine ⟨IN (edgesOf n.ends).length fun i w' => Ext w2 w' ∧ w3.heap.size ≤ w'.heap.size ∧ SlR (fun b => w3.heap.size ≤ b) w' r7 ((edgesOf n.ends).map four) ∧ RowsD w' w2.heap.size T.t_int T.t_sl_int out (pullN p (nodeSets p) L ((edgesOf n.ends).take i) (zeroM L)) ss, MN (edgesOf n.ends).length, IN_zero ⟨hE3.trans hE7, hE7.size_le, hL7, by simpa [pullN] using hR3.ext hE7⟩, ?_⟩
    rintro _ w8 ⟨i, rfl, hi, hE8, hz8, hL8, hR8⟩
    intros
    have hMr := pullN_rows (p := p) (S := nodeSets p) (L := L) ((edgesOf n.ends).take i) hZr
    have hMI := pullN_I64 (p := p) (S := nodeSets p) (L := L) ((edgesOf n.ends).take i) hZI
    refine cond_dec (fun hlt => ?_) (fun hge => ?_)
    · have hi' : i < (edgesOf n.ends).length := by omega
      have hqm := List.getElem_mem hi'
      have hsn : pullN p (nodeSets p) L ((edgesOf n.ends).take (i + 1)) (zeroM L) = stepN p (nodeSets p) L (pullN p (nodeSets p) L ((edgesOf n.ends).take i) (zeroM L)) (edgesOf n.ends)[i] := by rw [List.take_succ_eq_append_getElem hi', pullN_snoc]
      generalize pullN p (nodeSets p) L ((edgesOf n.ends).take i) (zeroM L) = M at *
      obtain ⟨v, pi, x, y, hq, ⟨hv, hx, hpi, hy⟩, hvL, hxL, hpiL, hyL⟩ := edge_cells hg hMr hLr hqm
      obtain ⟨he, ha1, ha2⟩ := two_labs hLb hq hvL hpiL hxL hyL
      have hps := pair_some hsome hqm
      have hC2 := pair_len hsome hqm
      have hC8 := pair_labs p (nodeSets p) L (edgesOf n.ends)[i]
      rw [he] at hps
      have hst2 : stepN p (nodeSets p) L M (edgesOf n.ends)[i] = set2 (set2 M v pi ((pairN p (nodeSets p) L (edgesOf n.ends)[i]).getD 0 0)) x y ((pairN p (nodeSets p) L (edgesOf n.ends)[i]).getD 1 0) := by
        unfold stepN
        generalize pairN p (nodeSets p) L (edgesOf n.ends)[i] = C
        rw [hq]
        rfl
      rw [hst2] at hsn
      generalize pairN p (nodeSets p) L (edgesOf n.ends)[i] = C at *
      have hCI : ∀ z ∈ C, I64 z := fun z hz => by have := hC8 z hz; unfold I64; omega
      rw [get_of (k := 0) (by omega), get_of (k := 1) (by omega)] at hsn
      refine hL8.ixL (by rw [hlen4]; exact hi') fun qa r35 hR35 hc => LD_sl hc ?_
      have h4 : ((edgesOf n.ends).map four)[i]'(by rw [hlen4]; exact hi') = [(v : Int), (pi : Int), (x : Int), (y : Int)] := by simp [hq, four]
      rw [h4] at hR35
      intro w9 hE9 _
      replace hE8 := hE8.ext hE9
      replace hL8 := hL8.ext hE9
      replace hR8 := hR8.ext hE9
      replace hR35 := hR35.ext hE9
      have hl9 := hl.ext hE8
      have hS9 := hS.ext hE8
      obtain ⟨A, hA⟩ := Int.eq_ofNat_of_zero_le ha1.1
      obtain ⟨B, hB⟩ := Int.eq_ofNat_of_zero_le ha2.1
      have hA' : A < (nodeSets p).length := by omega
      have hB' : B < (nodeSets p).length := by omega
      refine LD_bs3 (hb1.ext hE8) ?_
      refine hR35.ixI (i := 0) (by simp) fun q0 _ hc0 => LD_int hc0 ?_
      refine hl9.ixL hvL fun qv rv hrv hcv => LD_sl hcv ?_
      refine hR35.ixI (i := 1) (by simp) fun q0 _ hc0 => LD_int hc0 ?_
      refine hrv.ixI hpiL fun q1 _ hc1 => LD_int hc1 ?_
      rw [hA]
      refine hS9.ixI hA' fun qs hIA hcs => LD_int hcs ?_
      refine hR35.ixI (i := 2) (by simp) fun q0 _ hc0 => LD_int hc0 ?_
      refine hl9.ixL hxL fun qx rx hrx hcx => LD_sl hcx ⟨Ext.refl _, ?_⟩
      refine hR35.ixI (i := 3) (by simp) fun q0 _ hc0 => ⟨Ext.refl _, LD_int hc0 ⟨Ext.refl _, ?_⟩⟩
      refine hrx.ixI hyL fun q2 _ hc2 => ⟨Ext.refl _, LD_int hc2 ⟨Ext.refl _, ?_⟩⟩
      rw [hB]
      refine hS9.ixI hB' fun qs2 hIB hcs2 => ⟨Ext.refl _, LD_int hcs2 ⟨Ext.refl _, ?_⟩⟩
      refine RUN_lits slt_int [(nodeSets p)[A], (nodeSets p)[B]] (by simp) (by simp) rfl rfl fun x67 w10 hE10 hO10 => ⟨hE10, ?_⟩
      have hE210 := hE8.trans hE10
      have hSb : ∀ z ∈ [(nodeSets p)[A], (nodeSets p)[B]], ∃ m : Nat, z = m ∧ m < 256 := fun z hz => by
        simp at hz
        rcases hz with rfl | rfl
        · exact hSB.byte _ (List.getElem_mem hA')
        · exact hSB.byte _ (List.getElem_mem hB')
      have hR10 : R w10 x67 [(nodeSets p)[A], (nodeSets p)[B]] := (hO10.rep (by intro z hz; simp at hz; rcases hz with rfl | rfl; exact hIA; exact hIB)).any
      refine call (elChoice_ok (good := p.edges) hSb (by simp) 2 (ch := ⟨none, 0, 0⟩) (pre := []) (by simp) (h.edges.ext hE210) hR10 (D := fun _ => False) (nil_at w10 _)) ?_
      rintro r68 bb w11 ⟨hE11, hm⟩
      have e1 : (([(nodeSets p)[A], (nodeSets p)[B]].drop ([] : List Int).length).map fun x => labsOf x.toNat) = listsAt (nodeSets p) [L[v][pi], L[x][y]] := by
        rw [hA, hB]
        simp [listsAt, hA', hB']
      rw [e1] at hm
      have hP : (fun c => decide (sortI c ∈ p.edges)) = nodeB2 p := rfl
      rw [hP, hps] at hm
      obtain ⟨_, hR68⟩ := hm
      have hE911 := hE10.trans hE11
      refine ⟨hE911, hE911, hE911, ?_⟩
      intro w12 hE12 _
      have hE912 := hE911.trans hE12
      have hzz := hE10.size_le
      have hz9 : w3.heap.size ≤ w9.heap.size := by have := hE9.size_le; omega
      have hz12 := hE912.size_le
      replace hE8 := hE8.ext hE912
      replace hL8 := hL8.ext hE912
      replace hR8 := hR8.ext hE912
      replace hR35 := hR35.ext hE912
      replace hR68 := hR68.ext hE12
      obtain ⟨ra, hra, hOa⟩ := hR8.at hv
      obtain ⟨rb, hrb, hOb⟩ := hR8.at hx
      have hns : ∀ k, out.v.ownBlock = some k → ¬ oB ra k := fun k hk h1 => hR8.block_ne (by decide) hra h1 hk
      have hns2 : ∀ k, out.v.ownBlock = some k → ¬ oB rb k := fun k hk h1 => hR8.block_ne (by decide) hrb h1 hk
      refine ⟨oB ra, ?_⟩
      refine ixID hR35 (i := 0) (by simp) fun q0 hd0 hc0 => ⟨fun hh => (by have := hss v ra hra _ hh; omega), LD_int hc0 ?_⟩
      refine hR8.ix hv fun pa' ra' hra' hOa' hca' hba' => ⟨hns _ hba', LD_sl hca' ?_⟩
      rw [hra] at hra'; cases hra'
      refine ixID hR35 (i := 1) (by simp) fun q0 hd0 hc0 => ⟨fun hh => (by have := hss v ra hra _ hh; omega), LD_int hc0 ⟨Chg.refl _ _, ?_⟩⟩
      refine hR68.ixI (i := 0) (by omega) fun q0 _ hc0 => ⟨Chg.refl _ _, LD_int hc0 ⟨Chg.refl _ _, ?_⟩⟩
      refine IX_own hOa' hpi rfl fun p1 hp1 => ?_
      obtain ⟨hxl, hyl, hst3⟩ := set2_two (i := pi) hv hx hy C[0] C[1]
      refine store1 hR8 hv hpi hra hp1 fun w13 hs13 hR13 => ?_
      intro w14 hE14 _
      have hE13 := hs13.ext0 hE8 fun k hk => (hOa'.blk k hk).1
      have hL13 := hL8.stepD hs13 fun b hb he => by have := hss v ra hra _ he; omega
      have hR35' := hR35.stepD hs13 fun b hb he => by have := hss v ra hra _ he; omega
      have hR68' := hR68.stepD hs13 fun b hb he => by
        have := hss v ra hra _ he
        rcases hb with hb | hb
        · exact hb
        · omega
      replace hE13 := hE13.ext hE14
      replace hL13 := hL13.ext hE14
      replace hR13 := hR13.ext hE14
      replace hR35' := hR35'.ext hE14
      replace hR68' := hR68'.ext hE14
      refine ⟨oB rb, ?_⟩
      refine ixID hR35' (i := 2) (by simp) fun q0 hd0 hc0 => ⟨fun hh => (by have := hss x rb hrb _ hh; omega), LD_int hc0 ?_⟩
      refine hR13.ix hxl fun pb' rb' hrb' hOb' hcb' hbb' => ⟨fun h1 => hR13.block_ne (by decide) hrb h1 hbb', LD_sl hcb' ?_⟩
      rw [hrb] at hrb'; cases hrb'
      refine ixID hR35' (i := 3) (by simp) fun q0 hd0 hc0 => ⟨fun hh => (by have := hss x rb hrb _ hh; omega), LD_int hc0 ⟨Chg.refl _ _, ?_⟩⟩
      refine hR68'.ixI (i := 1) (by omega) fun q0 _ hc0 => ⟨Chg.refl _ _, LD_int hc0 ⟨Chg.refl _ _, ?_⟩⟩
      refine IX_own hOb' hyl rfl fun p2 hp2 => store1 hR13 hxl hyl hrb hp2 fun w17 hs17 hR17 => ?_
      rw [← hst3] at hR17
      refine IN_next (by omega) hi' ⟨hs17.ext0 hE13 (fun k hk => (hOb'.blk k hk).1), by have := hs13.size; have := hE14.size_le; have := hs17.size; omega, hL13.stepD hs17 (fun b hb he => by have := hss x rb hrb _ he; omega), by rw [hsn]; exact hR17⟩
    · have : i = (edgesOf n.ends).length := by omega
      subst this
      rw [List.take_length] at hR8 hMr hMI
      rw [pullN_all hg hLr hZr]
      exact ⟨hE.trans hE8, hR8.rep hMI⟩

theorem sPullNodeStep_ok {w : World} {c d a b e s : Sl} {p : Prob} {n : Net} {L : List (List Int)} (h : RProb w c d p) (hN : RNet w a b e n) (hl : R w s L) :
    Calls Tryz.prog F.s_PullNodeStep #[.agg #[.int .i64 p.labels, .int .i64 p.degree, c.v, d.v], .agg #[a.v, b.v, e.v], s.v] w (Ret [.at .sl, .at .bool] fun (r : Sl) (y : Bool) w' => Ext w w' ∧ ∃ m, R w' r m ∧ AnsG (PnAsked p n L) (pullN p (nodeSets p) L (edgesOf n.ends) L) [] m y) := by
  refine C_s_PullNodeStep ?_
  unfold V_s_PullNodeStep
  refine NEW_intro fun pp w1 hp1 hs1 hE1 hb1 => NEW_intro fun pn w2 hp2 hs2 hE2 hb2 => ?_
  have hE := hE1.trans hE2
  replace h := h.ext hE
  replace hN := hN.ext hE
  replace hl := hl.ext hE
  replace hb1 := hb1.ext hE2
  have hni : ∀ {w' : World}, R w' (⟨none, 0, 0⟩ : Sl) ([] : List (List Int)) := fun {w'} => (OutM.nil 0 w').rep
  refine LD_iiss hb1 ?_
  refine call (sNodeStep_ok h) ?_
  rintro x y z u S r w3 ⟨hE3, hr⟩
  replace hE := hE.ext hE3
  replace h := h.ext hE3
  replace hN := hN.ext hE3
  replace hl := hl.ext hE3
  replace hb1 := hb1.ext hE3
  replace hb2 := hb2.ext hE3
  refine NEW_ST (one4p _ _ _ _) rfl fun pq w4 hp4 hE4 hb4 => ?_
  replace hE := hE.ext hE4
  replace h := h.ext hE4
  replace hN := hN.ext hE4
  replace hl := hl.ext hE4
  replace hb1 := hb1.ext hE4
  replace hb2 := hb2.ext hE4
  rcases hr with ⟨rfl, hgd, rfl, rfl, hP⟩ | ⟨rfl, hn'⟩
  · replace hP := hP.ext hE4
    refine cond_not (fun hf => by cases hf) (fun _ => LD_iiss hb4 (LD_box3 hb2 ?_))
    refine call (prAsked_ok (p := nodeP p) hP.prob hN hl) ?_
    rintro t w6 ⟨ht, hE6⟩
    replace hE := hE.ext hE6
    replace h := h.ext hE6
    replace hN := hN.ext hE6
    replace hl := hl.ext hE6
    replace hb1 := hb1.ext hE6
    replace hb2 := hb2.ext hE6
    replace hb4 := hb4.ext hE6
    replace hP := hP.ext hE6
    refine cond_not (fun hfa => ⟨hE, [], hni, .no fun hA => (by rw [ht.2 ⟨node_made hgd, hA.net, hA.lab⟩] at hfa; cases hfa)⟩) (fun ht2 => LD_iiss hb4 (LD_box3 hb2 ?_))
    have hA := ht.1 ht2
    refine call (prIs_ok (p := nodeP p) hP.prob hA.fin hN hl) ?_
    rintro v w7 ⟨hv, hE7⟩
    replace hE := hE.ext hE7
    replace h := h.ext hE7
    replace hN := hN.ext hE7
    replace hl := hl.ext hE7
    replace hb1 := hb1.ext hE7
    replace hb2 := hb2.ext hE7
    replace hP := hP.ext hE7
    refine cond_not (fun hfa => ⟨hE, [], hni, .no fun hA => (by rw [hv.2 hA.clean] at hfa; cases hfa)⟩) (fun ht3 => LD_box3 hb2 ?_)
    have hCl := hv.1 ht3
    refine call (elStubless_ok hN hA.good) ?_
    rintro q w8 ⟨hq, hE8⟩
    replace hE := hE.ext hE8
    replace h := h.ext hE8
    replace hN := hN.ext hE8
    replace hl := hl.ext hE8
    replace hb1 := hb1.ext hE8
    replace hb2 := hb2.ext hE8
    replace hP := hP.ext hE8
    refine cond_not (fun hfa => ⟨hE, [], hni, .no fun hA => (by rw [hq.2 hA.stub] at hfa; cases hfa)⟩) (fun ht4 => LD_iiss hb1 (LD_box3 hb2 ?_))
    refine call (elPullNode_ok h hgd hP.sets.any hN hA.good hl hA.lab hCl) ?_
    rintro r w9 ⟨hE9, hO⟩
    exact ⟨hE.trans hE9, _, hO, .yes ⟨hgd, hA.good, hq.1 ht4, hA.lab, hCl⟩⟩
  · refine cond_not (fun _ => ⟨hE, [], hni, .no fun hA => hn' hA.good⟩) (fun ht => by cases ht)

end Go.Proofs.YtndebacmnpghkaaGreat
end

section
/- Labels pulled through the node step are a solution. -/
namespace Go.Proofs.YtndebacmnpghkaaGreat
open Go.GX Go.RowKit
set_option maxRecDepth 100000

theorem two2_of : ∀ {c : List Int} {ls : List (List Int)}, c.length = ls.length → (∀ i (h1 : i < c.length) (h2 : i < ls.length), c[i] ∈ ls[i]) → Two2 (fun x l => x ∈ l) c ls
  | [], [], _, _ => .nil
  | [], _ :: _, hl, _ => by simp at hl
  | _ :: _, [], hl, _ => by simp at hl
  | x :: c, l :: ls, hl, h => .cons (h 0 (by simp) (by simp)) (two2_of (by simpa using hl) fun i h1 h2 => h (i + 1) (by simpa using h1) (by simpa using h2))

theorem full_good {p : Prob} {l : List Int} (hne : l ≠ []) (hf : fullB p l = true) {c : List Int} (hc : Two2 (fun x l => x ∈ l) c (l.map fun m => labsOf m.toNat)) : nodeB p c = true := by
  cases l with
  | nil => exact absurd rfl hne
  | cons x r =>
    rw [List.map_cons] at hc
    cases hc with
    | cons hb hc' =>
      rename_i b c'
      have h1 := fullB_iff.1 hf x (by simp)
      rw [List.erase_cons_head] at h1
      obtain ⟨a, rfl, ha, hbit⟩ := mem_labsOf.1 hb
      rw [← h1] at hbit
      unfold complM at hbit
      rw [Int.toNat_natCast, testBit_maskOf, Bool.and_eq_true, List.all_eq_true] at hbit
      have h2 := hbit.2 c' (mem_prodL.2 hc')
      have h3 : (c' ++ [(a : Int)]).Perm ((a : Int) :: c') := List.perm_append_comm
      rwa [nodeB_perm h3] at h2

/-- A node configuration of sets: all choices are node configurations. -/
theorem own_good {p : Prob} (hg : PGood p) {r c : List Int} (h : sortI r ∈ ownOf (nodeFull p) p.degree.toNat) (hc : Two2 (fun x l => x ∈ l) c (listsAt (nodeSets p) r)) : nodeB p c = true := by
  have hd := hg.deg
  have h1 := (List.mem_filter.1 h).2
  rw [List.contains_iff_mem] at h1
  obtain ⟨l, hl, hln⟩ := List.mem_map.1 h1
  have hS := nodeFull_conf p l hl
  have hf := (mem_nodeFull.1 hl).2
  have hne : l ≠ [] := by rintro rfl; have := hS.len; simp at this; omega
  have hp : (l.map fun s => (((nodeSets p).idxOf s : Nat) : Int)).Perm r := by
    have e : sortI (l.map fun s => (((nodeSets p).idxOf s : Nat) : Int)) = sortI r := hln
    exact (sortI_perm _).symm.trans (e ▸ sortI_perm r)
  have hmap : listsAt (nodeSets p) (l.map fun s => (((nodeSets p).idxOf s : Nat) : Int)) = l.map fun m => labsOf m.toNat := by
    unfold listsAt
    rw [List.map_map]
    apply List.map_congr_left
    intro y hy
    have hyS : y ∈ nodeSets p := (mem_setsOf (node_byte hg)).2 ⟨l, hl, hy⟩
    show labsOf ((nodeSets p).getD (((nodeSets p).idxOf y : Nat) : Int).toNat 0).toNat = _
    rw [Int.toNat_natCast, List.getD_eq_getElem?_getD, List.getElem?_eq_getElem (List.idxOf_lt_length_of_mem hyS)]
    simp
  have hpl : (listsAt (nodeSets p) r).Perm (l.map fun m => labsOf m.toNat) := by
    rw [← hmap]
    exact hp.symm.map _
  obtain ⟨c', hc', hcc⟩ := forall₂_perm hpl hc
  rw [nodeB_perm hcc]
  exact full_good hne hf hc'

/-! ### One edge at each end -/

theorem edge_full {n : Net} (hg : Good n) {q : Edge} (h : q ∈ edgesOf n.ends) : ∃ v i x y : Nat, q = ((v : Int), (i : Int), (x : Int), (y : Int)) ∧ port n.ends v i = some ((x : Int), (y : Int)) ∧ port n.ends x y = some ((v : Int), (i : Int)) ∧ isFirst v i ((x : Int), (y : Int)) = true := by
  obtain ⟨v, i, e, he, hf, rfl⟩ := mem_edgesOf.1 h
  obtain ⟨hv, hi, hee⟩ := port_some he
  obtain ⟨x, y, hxy, hx, hb⟩ := hg.far hv hi
  rw [hee] at hxy
  subst hxy
  exact ⟨v, i, x, y, rfl, he, hb, hf⟩

theorem first_iff {v i x y : Nat} : isFirst v i ((x : Int), (y : Int)) = true ↔ v < x ∨ (v = x ∧ i ≤ y) := by
  unfold isFirst
  simp only [Bool.or_eq_true, Bool.and_eq_true, decide_eq_true_eq, beq_iff_eq]
  omega

theorem hit_one {n : Net} (hg : Good n) {q q' : Edge} (h : q ∈ edgesOf n.ends) (h' : q' ∈ edgesOf n.ends) {u j : Nat} (hh : Hits q u j) (hh' : Hits q' u j) : q' = q := by
  obtain ⟨v, i, x, y, rfl, hp, hb, hf⟩ := edge_full hg h
  obtain ⟨v', i', x', y', rfl, hp', hb', hf'⟩ := edge_full hg h'
  rw [first_iff] at hf hf'
  unfold Hits at hh hh'
  simp only [Int.toNat_natCast] at hh hh'
  have fin : v = v' → i = i' → x = x' → y = y' → ((v' : Int), (i' : Int), (x' : Int), (y' : Int)) = ((v : Int), (i : Int), (x : Int), (y : Int)) := by rintro rfl rfl rfl rfl; rfl
  have inj : ∀ {a b c d : Nat}, some ((a : Int), (b : Int)) = some ((c : Int), (d : Int)) → a = c ∧ b = d := fun he => by
    have := Option.some.inj he
    simp only [Prod.mk.injEq] at this
    omega
  rcases hh with ⟨rfl, rfl⟩ | ⟨rfl, rfl⟩
  · rcases hh' with ⟨rfl, rfl⟩ | ⟨rfl, rfl⟩
    · obtain ⟨h1, h2⟩ := inj (hp.symm.trans hp')
      exact fin rfl rfl h1 h2
    · obtain ⟨h1, h2⟩ := inj (hp.symm.trans hb')
      exact fin (by omega) (by omega) (by omega) (by omega)
  · rcases hh' with ⟨rfl, rfl⟩ | ⟨rfl, rfl⟩
    · obtain ⟨h1, h2⟩ := inj (hb.symm.trans hp')
      exact fin (by omega) (by omega) (by omega) (by omega)
    · obtain ⟨h1, h2⟩ := inj (hb.symm.trans hb')
      exact fin h1 h2 rfl rfl

def cellN (p : Prob) (S : List Int) (L : List (List Int)) (q : Edge) (u j : Nat) : Int := if q.2.2.1.toNat = u ∧ q.2.2.2.toNat = j then (pairN p S L q).getD 1 0 else (pairN p S L q).getD 0 0

theorem at2_stepN {p : Prob} {S : List Int} {L M : List (List Int)} {E : Ends} (hM : SameRows E M) {u j : Nat} (hu : u < E.length) (hj : j < (E.getD u []).length) (q : Edge) : at2 (stepN p S L M q) u j = if q.2.2.1.toNat = u ∧ q.2.2.2.toNat = j then (pairN p S L q).getD 1 0 else if q.1.toNat = u ∧ q.2.1.toNat = j then (pairN p S L q).getD 0 0 else at2 M u j := by
  unfold stepN
  rw [at2_set2 (set2_rows hM _ _ _) hu hj, at2_set2 hM hu hj]

theorem pullN_keep {p : Prob} {S : List Int} {L : List (List Int)} {E : Ends} {u j : Nat} (hu : u < E.length) (hj : j < (E.getD u []).length) : ∀ (l : List Edge) {M : List (List Int)}, SameRows E M → (∀ q ∈ l, ¬ Hits q u j) → at2 (pullN p S L l M) u j = at2 M u j
  | [], _, _, _ => rfl
  | q :: l, M, hM, h => by
    have h1 := pullN_keep (p := p) (S := S) (L := L) hu hj l (M := stepN p S L M q) (stepN_rows hM q) fun q' hq' => h q' (List.mem_cons_of_mem _ hq')
    have h2 := h q (by simp)
    unfold Hits at h2
    rw [not_or] at h2
    have h3 := at2_stepN (p := p) (S := S) (L := L) hM hu hj q
    rw [if_neg h2.2, if_neg h2.1] at h3
    exact h1.trans h3

theorem pullN_cell {p : Prob} {S : List Int} {L : List (List Int)} {E : Ends} {u j : Nat} (hu : u < E.length) (hj : j < (E.getD u []).length) {q : Edge} (hh : Hits q u j) : ∀ (l : List Edge) {M : List (List Int)}, SameRows E M → q ∈ l → (∀ q' ∈ l, Hits q' u j → q' = q) → at2 (pullN p S L l M) u j = cellN p S L q u j
  | [], _, _, hq, _ => by cases hq
  | q0 :: l, M, hM, hq, h => by
    show at2 (pullN p S L l (stepN p S L M q0)) u j = _
    by_cases hl : q ∈ l
    · exact pullN_cell hu hj hh l (stepN_rows hM q0) hl fun q' hq' => h q' (List.mem_cons_of_mem _ hq')
    · rcases List.mem_cons.1 hq with rfl | hq'
      · rw [pullN_keep hu hj l (stepN_rows hM q) fun q' hq' hh' => hl (h q' (List.mem_cons_of_mem _ hq') hh' ▸ hq'), at2_stepN hM hu hj]
        unfold cellN
        rcases hh with hh | hh
        · rw [if_pos hh]
        · rw [if_pos hh, if_pos hh]
      · exact absurd hq' hl

theorem pair_mem {p : Prob} {S : List Int} {L : List (List Int)} {E : Ends} (h : SomeN p S L E) {q : Edge} (hq : q ∈ edgesOf E) : (pairN p S L q).getD 0 0 ∈ labsOf (S.getD (at2 L q.1.toNat q.2.1.toNat).toNat 0).toNat ∧ (pairN p S L q).getD 1 0 ∈ labsOf (S.getD (at2 L q.2.2.1.toNat q.2.2.2.toNat).toNat 0).toNat ∧ nodeB2 p [(pairN p S L q).getD 0 0, (pairN p S L q).getD 1 0] = true := by
  obtain ⟨hP, e, he, hce⟩ := firstC_spec (pair_some h hq)
  rw [List.nil_append] at hce
  rw [hce] at hP ⊢
  have h2 := mem_prodL.1 he
  unfold endsP listsAt at h2
  simp only [List.map_cons, List.map_nil] at h2
  cases h2 with
  | cons h3 h4 =>
    cases h4 with
    | cons h5 h6 =>
      cases h6
      exact ⟨h3, h5, hP⟩

/-- What is pulled lies in the sets that the labels stand for. -/
theorem pullN_in {p : Prob} {n : Net} {L : List (List Int)} (hA : PnAsked p n L) {u j : Nat} (hu : u < n.ends.length) (hj : j < (n.ends.getD u []).length) : at2 (pullN p (nodeSets p) L (edgesOf n.ends) L) u j ∈ labsOf ((nodeSets p).getD (at2 L u j).toNat 0).toNat := by
  obtain ⟨q, hq, hh⟩ := covered hA.net hu hj
  rw [pullN_cell hu hj hh _ hA.lab.rows hq fun q' hq' hh' => hit_one hA.net hq hq' hh hh']
  have h1 := pair_mem (node_some hA.clean) hq
  unfold cellN
  by_cases h2 : q.2.2.1.toNat = u ∧ q.2.2.2.toNat = j
  · rw [if_pos h2]
    have := h1.2.1
    rwa [h2.1, h2.2] at this
  · rw [if_neg h2]
    rcases hh with hh | hh
    · have := h1.1
      rwa [hh.1, hh.2] at this
    · exact absurd hh h2

theorem pulled_lab {p : Prob} {n : Net} {L : List (List Int)} (hA : PnAsked p n L) : LabOk p n.ends (pullN p (nodeSets p) L (edgesOf n.ends) L) := by
  have hr := pullN_rows (p := p) (S := nodeSets p) (L := L) (edgesOf n.ends) hA.lab.rows
  refine ⟨hr, fun r hr' x hx => ?_⟩
  obtain ⟨u, hu, rfl⟩ := List.mem_iff_getElem.1 hr'
  obtain ⟨j, hj, rfl⟩ := List.mem_iff_getElem.1 hx
  have huE : u < n.ends.length := by rw [← hr.1]; exact hu
  have h1 := hr.2 u hu
  rw [rowD hu] at h1
  have hin := pullN_in hA huE (j := j) (by omega)
  rw [at2_get hu hj] at hin
  have huL : u < L.length := by rw [hA.lab.rows.1]; exact huE
  have h2 := hA.lab.rows.2 u huL
  have hjL : j < L[u].length := by rw [rowD huL] at h2; omega
  have hlab := hA.lab.labs _ (List.getElem_mem huL) _ (List.getElem_mem hjL)
  have e : (nodeP p).labels = ((nodeSets p).length : Nat) := rfl
  rw [at2_get huL hjL] at hin
  have hk : (L[u][j]).toNat < (nodeSets p).length := by omega
  have hg : (nodeSets p).getD (L[u][j]).toNat 0 = (nodeSets p)[(L[u][j]).toNat] := get_of hk
  rw [hg] at hin
  obtain ⟨l, hl, hxl⟩ := (mem_setsOf (node_byte hA.good.1)).1 (List.getElem_mem hk)
  have hv := (nodeFull_conf p l hl).vals _ hxl
  obtain ⟨a, ha, hal⟩ := dig_of (n := p.labels.toNat) (t := ((nodeSets p)[(L[u][j]).toNat]).toNat) (by omega) _ hin
  have hpl := hA.good.1.lab
  show 0 ≤ _ ∧ _ ≤ p.labels - 1
  omega

theorem pulled_clean {p : Prob} {n : Net} {L : List (List Int)} (hA : PnAsked p n L) : Clean p n.ends (pullN p (nodeSets p) L (edgesOf n.ends) L) := by
  have hr := pullN_rows (p := p) (S := nodeSets p) (L := L) (edgesOf n.ends) hA.lab.rows
  intro v hv
  have hvM : v < (pullN p (nodeSets p) L (edgesOf n.ends) L).length := by rw [hr.1]; exact hv
  have hvL : v < L.length := by rw [hA.lab.rows.1]; exact hv
  have h1 := hr.2 v hvM
  have h2 := hA.lab.rows.2 v hvL
  refine ⟨fun hB => ?_, fun k hB => ?_⟩
  · have hN := (hA.clean v hv).1
    have hd : ((L.getD v []).length : Int) = p.degree := by have := hB.1; omega
    have hok : NodeOk (nodeP p) (L.getD v []) := Classical.byContradiction fun hn => hN ⟨hd, hn⟩
    have hc : Two2 (fun x l => x ∈ l) ((pullN p (nodeSets p) L (edgesOf n.ends) L).getD v []) (listsAt (nodeSets p) (L.getD v [])) := by
      refine two2_of (by rw [listsAt_len]; omega) fun j hj1 hj2 => ?_
      have hin := pullN_in hA hv (j := j) (by omega)
      rw [listsAt_len] at hj2
      have e1 : at2 (pullN p (nodeSets p) L (edgesOf n.ends) L) v j = ((pullN p (nodeSets p) L (edgesOf n.ends) L).getD v [])[j] := get_of hj1
      have e2 : at2 L v j = (L.getD v [])[j] := get_of hj2
      rw [e1, e2] at hin
      simpa [listsAt] using hin
    exact hB.2 (nodeB_iff.1 (own_good hA.good.1 hok hc))
  · obtain ⟨hk, hf, hE⟩ := hB
    have hkE : k < n.ends[v].length := by rw [rowD hv] at hk; exact hk
    obtain ⟨x, y, hxy, hx, hb⟩ := hA.net.far hv hkE
    have he : endOf n.ends v k = ((x : Int), (y : Int)) := by unfold endOf; rw [endD hv hkE]; exact hxy
    rw [he] at hf hE
    have hp : port n.ends v k = some ((x : Int), (y : Int)) := by rw [port_get hv hkE, hxy]
    have hq : ((v : Int), (k : Int), (x : Int), (y : Int)) ∈ edgesOf n.ends := mem_edgesOf.2 ⟨v, k, ((x : Int), (y : Int)), hp, hf, rfl⟩
    have hns : ¬ (x = v ∧ y = k) := fun hh => hA.stub v k (by rw [hp, hh.1, hh.2])
    obtain ⟨_, hy, _⟩ := port_some hb
    have m := pair_mem (node_some hA.clean) hq
    have hh1 : Hits ((v : Int), (k : Int), (x : Int), (y : Int)) v k := .inl ⟨by simp, by simp⟩
    have hh2 : Hits ((v : Int), (k : Int), (x : Int), (y : Int)) x y := .inr ⟨by simp, by simp⟩
    have c1 := pullN_cell (p := p) (S := nodeSets p) (L := L) (M := L) hv hk hh1 _ hA.lab.rows hq fun q' hq' hh' => hit_one hA.net hq hq' hh1 hh'
    have c2 := pullN_cell (p := p) (S := nodeSets p) (L := L) (M := L) hx (by rw [rowD hx]; exact hy) hh2 _ hA.lab.rows hq fun q' hq' hh' => hit_one hA.net hq hq' hh2 hh'
    unfold cellN at c1 c2
    simp only [Int.toNat_natCast] at c1 c2 hE
    rw [if_neg hns] at c1
    rw [if_pos ⟨trivial, trivial⟩] at c2
    rw [c1, c2] at hE
    exact hE (edgeB_iff.1 m.2.2)

/-! ### A whole round -/

theorem ansG_cases {α : Type} {g : Prop} {x d y : α} {ok : Bool} (h : AnsG g x d y ok) : (g ∧ y = x ∧ ok = true) ∨ (¬ g ∧ y = d ∧ ok = false) := by
  by_cases hg : g
  · exact .inl ⟨hg, h.val hg, h.ok.2 hg⟩
  · refine .inr ⟨hg, h.non hg, ?_⟩
    cases ok with
    | false => rfl
    | true => exact absurd (h.ok.1 rfl) hg

structure PrAsked (p : Prob) (n : Net) (L : List (List Int)) : Prop where
  good : edGood p
  node : PnAsked (edgeP p) n L

def roundL (p : Prob) (n : Net) (L : List (List Int)) : List (List Int) := (pullN (edgeP p) (nodeSets (edgeP p)) L (edgesOf n.ends) L).map (pullRow p (edgeSets p))

theorem PullRound_ok {w : World} {c d a b e s : Sl} {p : Prob} {n : Net} {L : List (List Int)} (h : RProb w c d p) (hN : RNet w a b e n) (hl : R w s L) (hsp : SmallP p) (hn : Small n) (hsl : SmallM L) :
    Calls Tryz.prog F.i_PullRound #[.agg #[.int .i64 p.labels, .int .i64 p.degree, c.v, d.v], .agg #[a.v, b.v, e.v], s.v] w (Ret [.at .sl, .at .bool] fun (r : Sl) (y : Bool) w' => Ext w w' ∧ ∃ m, OutM w.heap.size w' r m ∧ AnsG (PrAsked p n L) (roundL p n L) [] m y) := by
  refine C_i_PullRound ?_
  unfold V_i_PullRound
  refine NEW_intro fun pp w1 hp1 hs1 hE1 hb1 => NEW_intro fun pn w2 hp2 hs2 hE2 hb2 => ?_
  have hE := hE1.trans hE2
  replace h := h.ext hE
  replace hN := hN.ext hE
  replace hl := hl.ext hE
  replace hb1 := hb1.ext hE2
  refine LD_iiss hb1 ?_
  refine call (EdgeStep_ok h hsp) ?_
  rintro x y z u S r w3 ⟨hE3, hr⟩
  replace hE := hE.ext hE3
  replace h := h.ext hE3
  replace hN := hN.ext hE3
  replace hl := hl.ext hE3
  replace hb1 := hb1.ext hE3
  replace hb2 := hb2.ext hE3
  refine NEW_ST (one4p _ _ _ _) rfl fun pq w4 hp4 hE4 hb4 => ?_
  replace hE := hE.ext hE4
  replace h := h.ext hE4
  replace hN := hN.ext hE4
  replace hl := hl.ext hE4
  replace hb1 := hb1.ext hE4
  replace hb2 := hb2.ext hE4
  rcases hr with ⟨rfl, hgd, rfl, rfl, hP⟩ | ⟨rfl, hn'⟩
  · replace hP := hP.ext hE4
    refine cond_not (fun hf => by cases hf) (fun _ => LD_iiss hb4 (LD_box3 hb2 ?_))
    refine call (PullNodeStep_ok (p := edgeP p) hP.prob hN hl (edge_small hgd) hn hsl) ?_
    rintro m ok w6 ⟨hE6, M, hM, hAn⟩
    replace hE := hE.ext hE6
    replace h := h.ext hE6
    replace hN := hN.ext hE6
    replace hl := hl.ext hE6
    replace hb1 := hb1.ext hE6
    replace hb2 := hb2.ext hE6
    rcases ansG_cases hAn with ⟨hA, rfl, rfl⟩ | ⟨hA, rfl, rfl⟩
    · refine cond_not (fun hf => by cases hf) (fun _ => LD_iiss hb1 (LD_box3 hb2 ?_))
      have hrows : (pullN (edgeP p) (nodeSets (edgeP p)) L (edgesOf n.ends) L).length ≤ 1048576 := hM.rows
      refine call (PullEdgeStep_ok h hN hM.rep hsp hn ⟨hM.rows, hM.small⟩) ?_
      rintro r ok w7 ⟨hE7, m', hO, hAm⟩
      have hPe : PeAsked p n (pullN (edgeP p) (nodeSets (edgeP p)) L (edgesOf n.ends) L) := ⟨hgd, hA.net, pulled_lab hA, pulled_clean hA⟩
      rcases ansG_cases hAm with ⟨_, rfl, rfl⟩ | ⟨hno, _, _⟩
      · exact ⟨hE.trans hE7, _, hO.low hE.size_le, .yes ⟨hgd, hA⟩⟩
      · exact absurd hPe hno
    · exact cond_not (fun _ => ⟨hE, [], OutM.nil _ _, .no fun hR => hA hR.node⟩) (fun ht => by cases ht)
  · exact cond_not (fun _ => ⟨hE, [], OutM.nil _ _, .no fun hR => hn' hR.good⟩) (fun ht => by cases ht)

theorem sPullRound_ok {w : World} {c d a b e s : Sl} {p : Prob} {n : Net} {L : List (List Int)} (h : RProb w c d p) (hN : RNet w a b e n) (hl : R w s L) :
    Calls Tryz.prog F.s_PullRound #[.agg #[.int .i64 p.labels, .int .i64 p.degree, c.v, d.v], .agg #[a.v, b.v, e.v], s.v] w (Ret [.at .sl, .at .bool] fun (r : Sl) (y : Bool) w' => Ext w w' ∧ ∃ m, R w' r m ∧ AnsG (PrAsked p n L) (roundL p n L) [] m y) := by
  refine C_s_PullRound ?_
  unfold V_s_PullRound
  refine NEW_intro fun pp w1 hp1 hs1 hE1 hb1 => NEW_intro fun pn w2 hp2 hs2 hE2 hb2 => ?_
  have hE := hE1.trans hE2
  replace h := h.ext hE
  replace hN := hN.ext hE
  replace hl := hl.ext hE
  replace hb1 := hb1.ext hE2
  have hni : ∀ {w' : World}, R w' (⟨none, 0, 0⟩ : Sl) ([] : List (List Int)) := fun {w'} => (OutM.nil 0 w').rep
  refine LD_iiss hb1 ?_
  refine call (sEdgeStep_ok h) ?_
  rintro x y z u S r w3 ⟨hE3, hr⟩
  replace hE := hE.ext hE3
  replace h := h.ext hE3
  replace hN := hN.ext hE3
  replace hl := hl.ext hE3
  replace hb1 := hb1.ext hE3
  replace hb2 := hb2.ext hE3
  refine NEW_ST (one4p _ _ _ _) rfl fun pq w4 hp4 hE4 hb4 => ?_
  replace hE := hE.ext hE4
  replace h := h.ext hE4
  replace hN := hN.ext hE4
  replace hl := hl.ext hE4
  replace hb1 := hb1.ext hE4
  replace hb2 := hb2.ext hE4
  rcases hr with ⟨rfl, hgd, rfl, rfl, hP⟩ | ⟨rfl, hn'⟩
  · replace hP := hP.ext hE4
    refine cond_not (fun hf => by cases hf) (fun _ => LD_iiss hb4 (LD_box3 hb2 ?_))
    refine call (sPullNodeStep_ok (p := edgeP p) hP.prob hN hl) ?_
    rintro m ok w6 ⟨hE6, M, hM, hAn⟩
    replace hE := hE.ext hE6
    replace h := h.ext hE6
    replace hN := hN.ext hE6
    replace hl := hl.ext hE6
    replace hb1 := hb1.ext hE6
    replace hb2 := hb2.ext hE6
    replace hP := hP.ext hE6
    rcases ansG_cases hAn with ⟨hA, rfl, rfl⟩ | ⟨hA, rfl, rfl⟩
    · refine cond_not (fun hf => by cases hf) (fun _ => LD_iiss hb1 ?_)
      have hlb := pulled_lab hA
      have hlen : (pullN (edgeP p) (nodeSets (edgeP p)) L (edgesOf n.ends) L).length ≤ 1048576 := by have := hlb.rows.1; have := hA.net.size.2; omega
      refine call (elPullEdge_ok h hgd.1 hP.sets.any (edge_sets hgd.1) hM (pull_rows hA.net hlb (pulled_clean hA)) hlen) ?_
      rintro r w7 ⟨hE7, hO⟩
      exact ⟨hE.trans hE7, _, hO, .yes ⟨hgd, hA⟩⟩
    · exact cond_not (fun _ => ⟨hE, [], hni, .no fun hR => hA hR.node⟩) (fun ht => by cases ht)
  · exact cond_not (fun _ => ⟨hE, [], hni, .no fun hR => hn' hR.good⟩) (fun ht => by cases ht)

end Go.Proofs.YtndebacmnpghkaaGreat
end

section
/- Problems that are eliminated one after the other; lists of problems that grow: what is known of them. -/
namespace Go.Proofs.YtndebacmnpghkaaGreat
open Go.GX Go.RowKit
set_option maxRecDepth 100000

/-! ### In plain words -/

def iterP (p : Prob) : Nat → Prob
  | 0 => p
  | k + 1 => roundP (iterP p k)

/-- The problem may be eliminated some times. -/
def itOk (p : Prob) (k : Nat) : Prop := PGood p ∧ ∀ i, i < k → rdFew (iterP p i)

theorem itOk.good {p : Prob} {k : Nat} (h : itOk p k) : ∀ i, i ≤ k → PGood (iterP p i)
  | 0, _ => h.1
  | i + 1, hi => made_round (h.good i (by omega)) (h.2 i (by omega))
theorem itOk.small {p : Prob} (hs : SmallP p) {k : Nat} (h : itOk p k) : ∀ i, i ≤ k → SmallP (iterP p i)
  | 0, _ => hs
  | i + 1, hi => small_round (h.good i (by omega)) (h.2 i (by omega))
theorem itOk.snoc {p : Prob} {k : Nat} (h : itOk p k) (hf : rdFew (iterP p k)) : itOk p (k + 1) := ⟨h.1, fun i hi => by
  by_cases he : i = k
  · subst he; exact hf
  · exact h.2 i (by omega)⟩

/-- The problems of some rounds. -/
def timesP (p : Prob) (k : Nat) : List Prob := (List.range (k + 1)).map (iterP p)
theorem timesP_len (p : Prob) (k : Nat) : (timesP p k).length = k + 1 := by simp [timesP]
theorem timesP_get {p : Prob} {k i : Nat} (hi : i < (timesP p k).length) : (timesP p k)[i] = iterP p i := by simp [timesP]
theorem timesP_snoc (p : Prob) (k : Nat) : timesP p (k + 1) = timesP p k ++ [iterP p (k + 1)] := by
  unfold timesP
  rw [List.range_succ, List.map_append, List.map_singleton]

/-- What is asked. -/
structure TmAsked (p : Prob) (k : Int) : Prop where
  k0 : 0 ≤ k
  k5 : k ≤ 5
  ok : itOk p k.toNat

/-! ### Lists of problems that grow -/

structure Recs (base : Nat) (w : World) (s : Sl) (l : List Prob) : Prop where
  ex : ∃ rs : List PRec, OwnL w base T.t_i_Problem s rs ∧ rs.length = l.length ∧ ∀ j (h1 : j < rs.length) (h2 : j < l.length), RecOf (fun b => s.v.ownBlock ≠ some b) w rs[j] l[j]

theorem Recs.rep {base : Nat} {w : World} {s : Sl} {l : List Prob} (h : Recs base w s l) : R w s l := by
  obtain ⟨rs, hO, hl, hr⟩ := h.ex
  exact recs_rep (D := fun _ => True) hO hl (fun j h1 h2 => have hR := hr j h1 h2; ⟨hR.x, hR.y, hR.lab, hR.deg, hR.nodes.any, hR.edges.any⟩) (fun b hb => hb) fun b _ => trivial
theorem Recs.ext {base : Nat} {w w' : World} {s : Sl} {l : List Prob} (h : Recs base w s l) (hE : Ext w w') : Recs base w' s l := by
  obtain ⟨rs, hO, hl, hr⟩ := h.ex
  exact ⟨rs, hO.ext hE, hl, fun j h1 h2 => (hr j h1 h2).ext hE⟩
theorem Recs.nil (base : Nat) (w : World) : Recs base w ⟨none, 0, 0⟩ [] := ⟨[], OwnL.nil _ _ _, rfl, fun j h1 => by simp at h1⟩
theorem Recs.blk {base : Nat} {w : World} {s : Sl} {l : List Prob} (h : Recs base w s l) {k : Nat} (hk : s.v.ownBlock = some k) : base ≤ k ∧ k < w.heap.size := by
  obtain ⟨rs, hO, _⟩ := h.ex
  exact hO.blk k hk
/-- A list of one problem, its lists made before the array. -/
theorem Recs.one {base b1 : Nat} {w0 w : World} {s z u : Sl} {q : Prob} (hE : Ext w0 w) (hO : OwnL w b1 T.t_i_Problem s [(⟨q.labels, q.degree, z, u⟩ : PRec)]) (hb1 : w0.heap.size ≤ b1) (hb : base ≤ b1) (hR : RProb w0 z u q) : Recs base w s [q] :=
  ⟨_, hO.low hb, rfl, fun j h1 h2 => by
    have hj : j = 0 := by simp at h2; omega
    subst hj
    have hk : ∀ b, True → b < w0.heap.size → s.v.ownBlock ≠ some b := fun b _ hlt he => by have := (hO.blk b he).1; omega
    exact ⟨rfl, rfl, hR.labels, hR.degree, (hR.nodes.weak hk RepP.pos).ext hE, (hR.edges.weak hk RepP.pos).ext hE⟩⟩

theorem RUN_append_rec {w0 w1 : World} {base b1 : Nat} {s y z u : Sl} {l : List Prob} {q : Prob} (h : Recs base w0 s l) (hbase : base ≤ w0.heap.size) (hE : Ext w0 w1) (hz : SlR (fun b => w0.heap.size ≤ b) w1 z q.nodes) (hu : SlR (fun b => w0.heap.size ≤ b) w1 u q.edges) (hq1 : I64 q.labels) (hq2 : I64 q.degree) (hl : l.length + 1 ≤ 1048576)
    (hy : OwnL w1 b1 T.t_i_Problem y [(⟨q.labels, q.degree, z, u⟩ : PRec)]) {K : Sl → World → Prop}
    (hk : ∀ s' w2, Recs base w2 s' (l ++ [q]) → Step w1 w2 s.v.ownBlock → K s' w2) : RUN Tryz.prog (.at .sl) (bsem .append #[T.t_sl_i_Problem, T.t_sl_i_Problem] T.t_sl_i_Problem #[s.v, y.v]) w1 K := by
  obtain ⟨rs, hO, hrl, hr⟩ := h.ex
  have hO1 := hO.ext hE
  have hsz := hE.size_le
  have hnew : ∀ b, w0.heap.size ≤ b → s.v.ownBlock ≠ some b := fun b hb he => by have := (hO.blk b he).2; omega
  refine RUN_appendF (α := PRec) slt_prob hO1 (by omega) (hy.rep fun _ _ => trivial) (by simp; omega) (by simp; unfold maxLen; omega) fun s' w2 hO2 hs2 hN => hk s' w2 ⟨_, hO2, by simp [hrl], fun j h1 h2 => ?_⟩ hs2
  have hw : ∀ b, s.v.ownBlock ≠ some b → b < w1.heap.size → s'.v.ownBlock ≠ some b := fun b hb hlt he => by
    rcases hN with hN | hN
    · exact hb (hN ▸ he)
    · have := hN b he; omega
  have main : ∀ {r : PRec} {q : Prob}, RecOf (fun b => s.v.ownBlock ≠ some b) w1 r q → RecOf (fun b => s'.v.ownBlock ≠ some b) w2 r q := fun {r q} hR => by
    have hs := hR.step hs2 fun b hb => hb
    refine ⟨hR.x, hR.y, hR.lab, hR.deg, ?_, ?_⟩
    · exact (hR.nodes.weak (D' := fun b => s.v.ownBlock ≠ some b ∧ s'.v.ownBlock ≠ some b) (fun b h3 h4 => ⟨h3, hw b h3 h4⟩) RepP.pos).stepD hs2 (fun b hb => hb.1) |>.weak (fun b hb _ => hb.2) RepP.pos
    · exact (hR.edges.weak (D' := fun b => s.v.ownBlock ≠ some b ∧ s'.v.ownBlock ≠ some b) (fun b h3 h4 => ⟨h3, hw b h3 h4⟩) RepP.pos).stepD hs2 (fun b hb => hb.1) |>.weak (fun b hb _ => hb.2) RepP.pos
  by_cases hj : j < rs.length
  · have hjl : j < l.length := by omega
    rw [List.getElem_append_left hj, List.getElem_append_left hjl]
    exact main ((hr j hj hjl).ext hE)
  · have hjl : j = l.length := by simp at h2; omega
    subst hjl
    have e1 : (rs ++ [(⟨q.labels, q.degree, z, u⟩ : PRec)])[l.length]'h1 = ⟨q.labels, q.degree, z, u⟩ := by
      rw [List.getElem_append_right (by omega)]; simp
    have e2 : (l ++ [q])[l.length]'h2 = q := by
      rw [List.getElem_append_right (by omega)]; simp
    rw [e1, e2]
    exact main ⟨rfl, rfl, hq1, hq2, hz.weak (fun b hb _ => hnew b hb) RepP.pos, hu.weak (fun b hb _ => hnew b hb) RepP.pos⟩

end Go.Proofs.YtndebacmnpghkaaGreat
end

section
/- Bounds as arguments. -/
namespace Go.Proofs.YtndebacmnpghkaaGreat
open Go.GX Go.RowKit
set_option maxRecDepth 100000

structure Bnd where
  ps : List Prob
  maps : List (List Int)
  pairs : List (List Int)

structure RBnd (w : World) (a b c : Sl) (B : Bnd) : Prop where
  ps : R w a B.ps
  maps : R w b B.maps
  pairs : R w c B.pairs

theorem RBnd.ext {w w' : World} {a b c : Sl} {B : Bnd} (h : RBnd w a b c B) (hE : Ext w w') : RBnd w' a b c B := ⟨h.ps.ext hE, h.maps.ext hE, h.pairs.ext hE⟩

structure SmallB (B : Bnd) : Prop where
  len : B.ps.length ≤ 1048576
  ps : ∀ q ∈ B.ps, SmallP q
  maps : SmallM B.maps
  pairs : SmallM B.pairs

end Go.Proofs.YtndebacmnpghkaaGreat
end

section
/- Lists of problems and bounds of the call's own: what marks do to them. -/
namespace Go.GX
open Go.RowKit

end Go.GX
namespace Go.Proofs.YtndebacmnpghkaaGreat
open Go.GX Go.RowKit
set_option maxRecDepth 100000

/-! ### Matrices whose blocks have an owner -/

structure InB (base top : Nat) (own : Nat → Nat) (i : Nat) (w : World) (s : Sl) (L : List (List Int)) : Prop where
  ex : ∃ ss : List Sl, RowsD w base T.t_int T.t_sl_int s L ss ∧ ∀ b, MB s ss b → own b = i ∧ b < top
  i64 : ∀ r ∈ L, ∀ x ∈ r, I64 x
  rows : L.length ≤ 1048576
  small : ∀ r ∈ L, r.length ≤ 1048576

section
variable {base top : Nat} {own : Nat → Nat} {i : Nat} {w w' : World} {s : Sl} {L : List (List Int)}

theorem InB.rep (h : InB base top own i w s L) : R w s L := by
  obtain ⟨ss, hM, _⟩ := h.ex
  exact hM.rep h.i64
theorem InB.keep (h : InB base top own i w s L) (hk : ∀ b, own b = i → base ≤ b → b < top → b < w.heap.size → w'.heap[b]? = w.heap[b]?) : InB base top own i w' s L := by
  obtain ⟨ss, hM, hb⟩ := h.ex
  exact ⟨⟨ss, hM.keepB fun b hB => hk b (hb b hB).1 (hM.blk hB).1 (hb b hB).2 (hM.blk hB).2, hb⟩, h.i64, h.rows, h.small⟩
theorem InB.away (h : InB base top own i w s L) {D : Nat → Prop} (hC : Chg w w' D) (hd : ∀ b, own b = i → base ≤ b → b < top → ¬ D b) : InB base top own i w' s L :=
  h.keep fun b h1 h2 h3 h4 => hC.block b h4 (hd b h1 h2 h3)
theorem InB.ext (h : InB base top own i w s L) (hE : Ext w w') : InB base top own i w' s L := h.away (Chg.of_ext (D := fun _ => False) hE) fun _ _ _ _ h => h
theorem InB.reown (h : InB base top own i w s L) {own' : Nat → Nat} {i' : Nat} (ho : ∀ b, base ≤ b → b < w.heap.size → b < top → own b = i → own' b = i') : InB base top own' i' w s L := by
  obtain ⟨ss, hM, hb⟩ := h.ex
  exact ⟨⟨ss, hM, fun b hB => ⟨ho b (hM.blk hB).1 (hM.blk hB).2 (hb b hB).2 (hb b hB).1, (hb b hB).2⟩⟩, h.i64, h.rows, h.small⟩
theorem InB.upTo (h : InB base top own i w s L) {t : Nat} (ht : top ≤ t) : InB base t own i w s L := by
  obtain ⟨ss, hM, hb⟩ := h.ex
  exact ⟨⟨ss, hM, fun b hB => ⟨(hb b hB).1, by have := (hb b hB).2; omega⟩⟩, h.i64, h.rows, h.small⟩
theorem InB.low (h : InB base top own i w s L) {b : Nat} (hb : b ≤ base) : InB b top own i w s L := by
  obtain ⟨ss, hM, ho⟩ := h.ex
  exact ⟨⟨ss, hM.low hb, ho⟩, h.i64, h.rows, h.small⟩
theorem InB.of (h : OutM base w s L) (ho : ∀ b, base ≤ b → b < w.heap.size → own b = i) : InB base w.heap.size own i w s L := by
  obtain ⟨ss, hM⟩ := h.ex
  exact ⟨⟨ss, hM, fun b hB => ⟨ho b (hM.blk hB).1 (hM.blk hB).2, (hM.blk hB).2⟩⟩, h.i64, h.rows, h.small⟩
theorem InB.nil (base top : Nat) (own : Nat → Nat) (i : Nat) (w : World) : InB base top own i w ⟨none, 0, 0⟩ [] := ⟨⟨[], RowsD.nil _ _ _ _, fun b hB => by
  rcases hB with hB | ⟨r, hr, _⟩
  · cases hB
  · cases hr⟩, by simp, by simp, by simp⟩

end

/-! ### Lists of problems -/

structure RecB (base top : Nat) (own : Nat → Nat) (j : Nat) (w : World) (r : PRec) (q : Prob) : Prop where
  x : r.x = q.labels
  y : r.y = q.degree
  lab : I64 q.labels
  deg : I64 q.degree
  nodes : InB base top own (2 * j + 3) w r.z q.nodes
  edges : InB base top own (2 * j + 4) w r.u q.edges

structure OutPS (base top : Nat) (own : Nat → Nat) (w : World) (s : Sl) (l : List Prob) : Prop where
  ex : ∃ rs : List PRec, OwnL w base T.t_i_Problem s rs ∧ rs.length = l.length ∧ (∀ b, s.v.ownBlock = some b → own b = 2 ∧ b < top) ∧ ∀ j (h1 : j < rs.length) (h2 : j < l.length), RecB base top own j w rs[j] l[j]
  len : l.length ≤ 1048576

section
variable {base top : Nat} {own : Nat → Nat} {w w' : World} {s : Sl} {l : List Prob}

theorem RecB.keep {j : Nat} {r : PRec} {q : Prob} (h : RecB base top own j w r q) (hk : ∀ b, 2 < own b → base ≤ b → b < top → b < w.heap.size → w'.heap[b]? = w.heap[b]?) : RecB base top own j w' r q :=
  ⟨h.x, h.y, h.lab, h.deg, h.nodes.keep fun b hb => hk b (by omega), h.edges.keep fun b hb => hk b (by omega)⟩
theorem RecB.away {j : Nat} {r : PRec} {q : Prob} (h : RecB base top own j w r q) {D : Nat → Prop} (hC : Chg w w' D) (hd : ∀ b, 2 < own b → base ≤ b → b < top → ¬ D b) : RecB base top own j w' r q :=
  h.keep fun b h1 h2 h3 h4 => hC.block b h4 (hd b h1 h2 h3)
theorem RecB.ext {j : Nat} {r : PRec} {q : Prob} (h : RecB base top own j w r q) (hE : Ext w w') : RecB base top own j w' r q :=
  ⟨h.x, h.y, h.lab, h.deg, h.nodes.ext hE, h.edges.ext hE⟩
theorem RecB.grow {j : Nat} {r : PRec} {q : Prob} (h : RecB base top own j w r q) {own' : Nat → Nat} {t : Nat} (ho : ∀ b, base ≤ b → b < top → own' b = own b) (ht : top ≤ t) : RecB base t own' j w r q :=
  ⟨h.x, h.y, h.lab, h.deg, (h.nodes.reown fun b h1 _ h2 h3 => (ho b h1 h2).trans h3).upTo ht, (h.edges.reown fun b h1 _ h2 h3 => (ho b h1 h2).trans h3).upTo ht⟩
theorem OutPS.keep (h : OutPS base top own w s l) (hk : ∀ b, 2 ≤ own b → base ≤ b → b < top → b < w.heap.size → w'.heap[b]? = w.heap[b]?) : OutPS base top own w' s l := by
  obtain ⟨rs, hO, hl, hb, hr⟩ := h.ex
  exact ⟨⟨rs, hO.keep fun b hB => hk b (by have := (hb b hB).1; omega) (hO.blk b hB).1 (hb b hB).2 (hO.blk b hB).2, hl, hb, fun j h1 h2 => (hr j h1 h2).keep fun b hB => hk b (by omega)⟩, h.len⟩
theorem OutPS.away (h : OutPS base top own w s l) {D : Nat → Prop} (hC : Chg w w' D) (hd : ∀ b, 2 ≤ own b → base ≤ b → b < top → ¬ D b) : OutPS base top own w' s l :=
  h.keep fun b h1 h2 h3 h4 => hC.block b h4 (hd b h1 h2 h3)
theorem OutPS.grow (h : OutPS base top own w s l) {own' : Nat → Nat} {t : Nat} (ho : ∀ b, base ≤ b → b < top → own' b = own b) (ht : top ≤ t) : OutPS base t own' w s l := by
  obtain ⟨rs, hO, hl, hb, hr⟩ := h.ex
  exact ⟨⟨rs, hO, hl, fun b hB => ⟨(ho b (hO.blk b hB).1 (hb b hB).2).trans (hb b hB).1, by have := (hb b hB).2; omega⟩, fun j h1 h2 => (hr j h1 h2).grow ho ht⟩, h.len⟩
theorem OutPS.ext (h : OutPS base top own w s l) (hE : Ext w w') : OutPS base top own w' s l := h.away (Chg.of_ext (D := fun _ => False) hE) fun _ _ _ _ h => h
theorem OutPS.rep (h : OutPS base top own w s l) : R w s l := by
  obtain ⟨rs, hO, hl, hb, hr⟩ := h.ex
  exact (recs_rep (D := fun _ => True) hO hl (fun j h1 h2 => have hR := hr j h1 h2; ⟨hR.x, hR.y, hR.lab, hR.deg, hR.nodes.rep, hR.edges.rep⟩) (fun b hb => hb) fun b _ => trivial)

end
end Go.Proofs.YtndebacmnpghkaaGreat
end

section
/- Bounds as arguments, counted and copied: what is measured, and copies that lie apart. -/
namespace Go.Proofs.YtndebacmnpghkaaGreat
open Go.GX Go.RowKit
set_option maxRecDepth 100000

/-! ### Copies whose rows lie apart -/

theorem set_fill {L : List (List Int)} {i : Nat} (h : i < L.length) : (L.take i ++ List.replicate (L.length - i) []).set i L[i] = L.take (i + 1) ++ List.replicate (L.length - (i + 1)) [] := by
  rw [List.set_append_right _ _ (by rw [List.length_take]; omega), List.length_take, Nat.min_eq_left (by omega), Nat.sub_self]
  obtain ⟨k, hk⟩ : ∃ k, L.length - i = k + 1 := ⟨L.length - i - 1, by omega⟩
  rw [hk, List.replicate_succ, List.set_cons_zero, show L.length - (i + 1) = k by omega, List.take_succ_eq_append_getElem h, List.append_assoc]
  rfl

/-- A problem of the call's own, its lists one behind the other. -/
structure FreshP (lo mid hi : Nat) (w : World) (z u : Sl) (q : Prob) : Prop where
  nodes : InB lo mid (fun _ => 0) 0 w z q.nodes
  edges : InB mid hi (fun _ => 0) 0 w u q.edges
  lom : lo ≤ mid
  mhi : mid ≤ hi
  top : hi ≤ w.heap.size

theorem FreshP.ext {lo mid hi : Nat} {w w' : World} {z u : Sl} {q : Prob} (h : FreshP lo mid hi w z u q) (hE : Ext w w') : FreshP lo mid hi w' z u q :=
  ⟨h.nodes.ext hE, h.edges.ext hE, h.lom, h.mhi, Nat.le_trans h.top hE.size_le⟩
theorem FreshP.step {lo mid hi : Nat} {w w' : World} {z u : Sl} {q : Prob} {g : Option Nat} (h : FreshP lo mid hi w z u q) (hs : Step w w' g) (hg : ∀ k, g = some k → k < lo ∨ hi ≤ k) : FreshP lo mid hi w' z u q := by
  have hC : Chg w w' (fun k => g = some k) := Chg.of_step hs fun k hk => hk
  have h1 := h.lom
  have h2 := h.mhi
  exact ⟨h.nodes.away hC fun b _ hb ht he => (by have := hg b he; omega), h.edges.away hC fun b _ hb ht he => (by have := hg b he; omega), h.lom, h.mhi, Nat.le_trans h.top hs.size⟩
theorem FreshP.prob {lo mid hi : Nat} {w : World} {z u : Sl} {q : Prob} (h : FreshP lo mid hi w z u q) (h1 : I64 q.labels) (h2 : I64 q.degree) : RProb w z u q := ⟨h1, h2, h.nodes.rep, h.edges.rep⟩

/-! ### Lists of problems that are copied, or grow -/

structure OutB (base top : Nat) (w : World) (a b c : Sl) (B : Bnd) : Prop where
  ex : ∃ own, OutPS base top own w a B.ps ∧ InB base top own 0 w b B.maps ∧ InB base top own 1 w c B.pairs

section
variable {base top : Nat} {w w' : World} {a b c : Sl} {B : Bnd}
theorem OutB.keep (h : OutB base top w a b c B) (hk : ∀ b, base ≤ b → b < top → b < w.heap.size → w'.heap[b]? = w.heap[b]?) : OutB base top w' a b c B := by
  obtain ⟨own, h1, h2, h3⟩ := h.ex
  exact ⟨own, h1.keep fun b _ => hk b, h2.keep fun b _ => hk b, h3.keep fun b _ => hk b⟩
theorem OutB.ext (h : OutB base top w a b c B) (hE : Ext w w') : OutB base top w' a b c B := h.keep fun _ _ _ h4 => hE.same h4
theorem OutB.chgR (h : OutB base top w a b c B) {lo hi : Nat} (hC : Chg w w' (fun b => lo ≤ b ∧ b < hi)) (hh : hi ≤ base ∨ top ≤ lo) : OutB base top w' a b c B :=
  h.keep fun b h1 h2 h3 => hC.block b h3 fun hD => by have h4 : lo ≤ b := hD.1; have h5 : b < hi := hD.2; omega
theorem OutB.low (h : OutB base top w a b c B) {l : Nat} (hl : l ≤ base) : OutB l top w a b c B := by
  obtain ⟨own, ⟨⟨rs, hO, h2, h3, h4⟩, h5⟩, hm, hp⟩ := h.ex
  exact ⟨own, ⟨⟨rs, hO.low hl, h2, h3, fun j k1 k2 => have hr := h4 j k1 k2; ⟨hr.x, hr.y, hr.lab, hr.deg, hr.nodes.low hl, hr.edges.low hl⟩⟩, h5⟩, hm.low hl, hp.low hl⟩
end

end Go.Proofs.YtndebacmnpghkaaGreat
end

section
/- Problems that are eliminated one after the other: both sides. -/
namespace Go.Proofs.YtndebacmnpghkaaGreat
open Go.GX Go.RowKit
set_option maxRecDepth 100000

theorem copyLists_big {w : World} {s : Sl} {L : List (List Int)} (h : R w s L) (hs : SmallM L) :
    Calls Tryz.prog F.i_copyLists #[s.v] w (Ret [.at .sl] fun (r : Sl) w' => Ext w w' ∧ OutM w.heap.size w' r L) := by
  refine C_i_copyLists ?_
  unfold V_i_copyLists
  obtain ⟨hb, hbb⟩ := hs
  rw [h.len]
  refine RUN_make (α := Sl) slt_rows (d := ⟨none, 0, 0⟩) rfl (by omega) (by unfold maxLen; omega) fun s w1 hE1 hO1 => ?_
  have hz1 := hE1.size_le
  refine ⟨IN L.length fun i w' => Ext w w' ∧ w1.heap.size ≤ w'.heap.size ∧ ∃ ss : List Sl, RowsD w' w.heap.size T.t_int T.t_sl_int s (L.take i ++ List.replicate (L.length - i) []) ss, MN L.length,
    IN_zero ⟨hE1, Nat.le_refl _, List.replicate L.length ⟨none, 0, 0⟩, ⟨hO1, by simp, fun k r m hr hm => ?_, fun k j r q hr hq _ b hb => ?_⟩⟩, ?_⟩
  · obtain ⟨_, rfl⟩ := List.getElem?_eq_some_iff.1 hr
    obtain ⟨_, rfl⟩ := List.getElem?_eq_some_iff.1 hm
    simp only [List.getElem_replicate, List.take_zero, List.nil_append]
    exact OwnL.nil _ _ _
  · obtain ⟨_, rfl⟩ := List.getElem?_eq_some_iff.1 hr
    simp only [List.getElem_replicate] at hb
    cases hb
  · rintro x w2 ⟨i, rfl, hi, hE, hz2, ss, hM⟩
    intros
    have hlm : (L.take i ++ List.replicate (L.length - i) []).length = L.length := by simp; omega
    refine cond_dec (fun hlt => ?_) (fun hge => ?_)
    · have hlt' : i < L.length := by omega
      refine (h.ext hE).ixL hlt' fun p s' hs' hc => LD_sl hc ?_
      have hz := hE.size_le
      refine call (clone_ok hs'.any (hbb _ (List.getElem_mem _))) ?_
      rintro s3 w3 ⟨hE3, hO3⟩
      have hM3 := hM.ext hE3
      refine hM3.ixP (i := i) (by omega) fun p hp => ?_
      have hiss : i < ss.length := by rw [hM.len]; omega
      refine hM.put (w1 := w3) (by decide) (i := i) (by omega) (r := ss[i]) (by simp [hiss]) (hO3.low hz) (Step.of_ext hE3 _) (.inr fun k hk => (hO3.blk k hk).1) hp fun w4 hM4 hs4 => ?_
      have hz4 := hs4.size
      have hz3 := hE3.size_le
      refine IN_next (by omega) hlt' ⟨hs4.ext0 (hE.trans hE3) (fun k hk => (hM.own.blk k hk).1), by omega, ss.set i s3, ?_⟩
      have e := set_fill (L := L) hlt'
      rw [← e]
      exact hM4
    · have : i = L.length := by omega
      subst this
      rw [List.take_length, Nat.sub_self, List.replicate_zero, List.append_nil] at hM
      exact ⟨hE, ⟨ss, hM⟩, flat_okII h, hb, hbb⟩

theorem copyProblem_ok {w : World} {c d : Sl} {p : Prob} (h : RProb w c d p) (hs : SmallP p) :
    Calls Tryz.prog F.i_copyProblem #[.agg #[.int .i64 p.labels, .int .i64 p.degree, c.v, d.v]] w (Ret [.agg [.int .i64, .int .i64, .sl, .sl]] fun (x y : Int) (z u : Sl) w' => x = p.labels ∧ y = p.degree ∧ Ext w w' ∧ ∃ mid hi, FreshP w.heap.size mid hi w' z u p) := by
  refine C_i_copyProblem ?_
  unfold V_i_copyProblem
  refine NEW_intro fun pp w1 hp1 hs1 hE1 hb1 => NEW_intro fun px w2 hp2 hs2 hE2 hb2 => ?_
  intro w3 hE3 _
  have hE := (hE1.trans hE2).trans hE3
  have hE23 := hE2.trans hE3
  have hz1 := hE1.size_le
  have hz23 := hE23.size_le
  replace h := h.ext hE
  replace hb1 := hb1.ext hE23
  replace hb2 := hb2.ext hE3
  refine ⟨fun _ => False, not_false, LD_bs2 hb1 ⟨not_false, LD_bs3 hb1 ?_⟩⟩
  refine call (copyLists_big h.nodes hs.1) ?_
  rintro z w4 ⟨hE4, hZ⟩
  refine ⟨Chg.of_ext hE4, ?_⟩
  refine call (copyLists_big (h.edges.ext hE4) hs.2) ?_
  rintro u w5 ⟨hE5, hU⟩
  refine ⟨Chg.of_ext (hE4.trans hE5), ?_⟩
  have hb5 := (hb1.ext hE4).ext hE5
  have hx5 := (hb2.ext hE4).ext hE5
  have hlt1 := hb1.lt
  have hlt2 := hb2.lt
  have hz3 := hE.size_le
  have hz4 := hE4.size_le
  have hz5 := hE5.size_le
  have hne : px.block ≠ pp.block := by omega
  refine ST_box1 hb5 (by simp) rfl fun w6 hz6 hk6 hX6 hb6 => ?_
  refine ST_box1 hb6 (by simp) rfl fun w7 hz7 hk7 hX7 hb7 => LD_iiss hb7 ?_
  have hx7 := (hx5.of_block (hk6 _ hne)).of_block (hk7 _ hne)
  have hE7 := hX7 _ (hX6 _ ((hE.trans hE4).trans hE5) (by omega)) (by omega)
  refine ST_all hx7 (one4p _ _ _ _) rfl fun w8 hs8 hz8 hb8 => LD_iiss hb8 ?_
  have hk8 : ∀ b, w3.heap.size ≤ b → b < w5.heap.size → w8.heap[b]? = w5.heap[b]? := fun b h1 h2 => by
    rw [hs8.block b (by omega) (by intro he; cases he; omega), hk7 b (by omega), hk6 b (by omega)]
  obtain ⟨ss, hM⟩ := hZ.ex
  refine ⟨rfl, rfl, hs8.ext0 hE7 fun k hk => by cases hk; omega, w4.heap.size, w5.heap.size, ?_, ?_, by omega, hE5.size_le, by omega⟩
  · have h0 : InB w3.heap.size w4.heap.size (fun _ => 0) 0 w4 z p.nodes := InB.of hZ fun _ _ _ => rfl
    exact ((h0.ext hE5).keep fun b _ h1 h2 h3 => hk8 b h1 h3).low hz3
  · have h0 : InB w4.heap.size w5.heap.size (fun _ => 0) 0 w5 u p.edges := InB.of hU fun _ _ _ => rfl
    exact h0.keep fun b _ h1 h2 h3 => hk8 b (by omega) h3

/-! ### Several rounds -/

def TmIs (p : Prob) (k : Int) (s : Sl) (ok : Bool) (w' : World) : Prop := (ok = true ∧ TmAsked p k ∧ R w' s (timesP p k.toNat)) ∨ (ok = false ∧ ¬ TmAsked p k)

theorem EliminateTimes_ok {w : World} {c d : Sl} {p : Prob} {k : Int} (h : RProb w c d p) (hs : SmallP p) :
    Calls Tryz.prog F.i_EliminateTimes #[.agg #[.int .i64 p.labels, .int .i64 p.degree, c.v, d.v], .int .i64 k] w (Ret [.at .sl, .at .bool] fun (s : Sl) (ok : Bool) w' => Ext w w' ∧ TmIs p k s ok w') := by
  refine C_i_EliminateTimes ?_
  unfold V_i_EliminateTimes
  refine NEW_intro fun pp w1 hp1 hs1 hE hb1 => LD_iiss hb1 ?_
  replace h := h.ext hE
  refine call (IsProblem_ok h) ?_
  rintro x w2 ⟨hx, hE2⟩
  replace hE := hE.ext hE2
  replace h := h.ext hE2
  replace hb1 := hb1.ext hE2
  refine cond_not (fun hf => ⟨hE, .inr ⟨rfl, fun hA => by rw [hx.2 hA.ok.1] at hf; cases hf⟩⟩) (fun ht => ?_)
  have hg := hx.1 ht
  refine C_i_isRounds ?_
  unfold V_i_isRounds
  refine call (within_ok _ _ _ _) ?_
  rintro _ _ ⟨rfl, rfl⟩
  refine cond_not (fun hf => ⟨hE, .inr ⟨rfl, fun hA => inR_false hf ⟨hA.k0, hA.k5⟩⟩⟩) (fun ht2 => ?_)
  have hk := inR_true ht2
  have hzw := hE.size_le
  unfold V_i_EliminateTimes_k1
  refine LD_iiss hb1 ?_
  refine call (copyProblem_ok h hs) ?_
  rintro _ _ z u w3 ⟨rfl, rfl, hE3, mid, hi, hF⟩
  replace hE := hE.ext hE3
  refine RUN_lit1 (α := PRec) slt_prob ⟨p.labels, p.degree, z, u⟩ rfl (by decide) fun s w4 hE4 hO4 => ?_
  replace hE := hE.ext hE4
  have hz3 := hE3.size_le
  have hR0 : Recs w2.heap.size w4 s [p] := Recs.one hE4 hO4 (Nat.le_refl _) hz3 (hF.prob h.labels h.degree)
  refine ⟨IN2 k.toNat fun i (out : Sl) w' => Ext w w' ∧ w2.heap.size ≤ w'.heap.size ∧ itOk p i ∧ Recs w2.heap.size w' out (timesP p i), MN2 k.toNat, IN2_zero ⟨hE, by have := hE4.size_le; omega, ⟨hg, fun i hi => by omega⟩, by simpa [timesP, iterP] using hR0⟩, ?_⟩
  rintro out _ w5 ⟨i, rfl, hi', hE5, hz5, hok, hR5⟩
  intros
  refine cond_dec (fun hlt => ?_) (fun hge => ?_)
  · have hil : i < (timesP p i).length := by rw [timesP_len]; omega
    refine slr_ixP hR5.rep hil fun q zq uq hP hc => LD_pcells hc ?_
    have eg := timesP_get hil
    rw [eg] at hP ⊢
    refine call (eliminate_ok hP (hok.small hs i (Nat.le_refl _)) (hok.good i (Nat.le_refl _))) ?_
    rintro x y z2 u2 a1 a2 b w6 ⟨hE6, hr⟩
    refine NEW_ST (one4p _ _ _ _) rfl fun pq w8 hpq hE8 hb8 => ?_
    rcases hr with ⟨rfl, hfw, rfl, rfl, hP2⟩ | ⟨rfl, hnf⟩
    · refine cond_not (fun hf => by cases hf) (fun _ => LD_iiss hb8 ?_)
      replace hP2 := hP2.ext hE8
      refine RUN_lit1 (α := PRec) slt_prob ⟨(roundP (iterP p i)).labels, (roundP (iterP p i)).degree, z2, u2⟩ rfl (by decide) fun y9 w9 hE9 hO9 => ?_
      replace hP2 := hP2.ext hE9
      refine RUN_append_rec hR5 hz5 ((hE6.trans hE8).trans hE9) hP2.nodes hP2.edges hP2.labels hP2.degree (by rw [timesP_len]; omega) hO9 fun s' w10 hR10 hs10 => ?_
      have hz10 := hs10.size
      have hzz := ((hE6.trans hE8).trans hE9).size_le
      refine IN2_next (by omega) (by omega) ⟨hs10.ext0 (hE5.trans ((hE6.trans hE8).trans hE9)) fun k hk => by have := (hR5.blk hk).1; omega, by omega, hok.snoc hfw, ?_⟩
      rw [timesP_snoc]
      exact hR10
    · refine cond_not (fun _ => ⟨hE5.trans (hE6.trans hE8), .inr ⟨rfl, fun hA => hnf (hA.ok.2 i (by omega))⟩⟩) (fun ht => by cases ht)
  · have : i = k.toNat := by omega
    subst this
    exact ⟨hE5, .inl ⟨rfl, ⟨hk.1, hk.2, hok⟩, hR5.rep⟩⟩

theorem reOwn_ok {w : World} {s : Sl} {L : List (List Int)} (h : R w s L) (hs : SmallM L) :
    Calls Tryz.prog F.s_reOwn #[s.v] w (Ret [.at .sl] fun (r : Sl) w' => Ext w w' ∧ SlR (fun b => w.heap.size ≤ b) w' r L) := by
  refine C_s_reOwn ?_
  unfold V_s_reOwn
  refine C_s_reShifted ?_
  unfold V_s_reShifted
  have hL64 := flat_okII h
  obtain ⟨hL, hLL⟩ := hs
  rw [h.len]
  refine ⟨IN2 L.length fun i (out : Sl) w' => Ext w w' ∧ ∃ ss, RowsD w' w.heap.size T.t_int T.t_sl_int out (L.take i) ss, MN2 L.length, IN2_zero ⟨Ext.refl _, [], RowsD.nil _ _ _ _⟩, ?_⟩
  rintro out _ w1 ⟨i, rfl, hi, hE1, ss, hM1⟩
  intros
  refine cond_dec (fun hlt => ?_) (fun hge => ?_)
  · have hi' : i < L.length := by omega
    have hz1 := hE1.size_le
    have hrl := hLL _ (List.getElem_mem hi')
    refine (h.ext hE1).ixL hi' fun q row hrow hc => LD_sl hc ?_
    rw [hrow.len]
    refine ⟨IN2 L[i].length fun j (y : Sl) w' => Ext w1 w' ∧ OwnL w' w1.heap.size T.t_int y (L[i].take j), MN2 L[i].length, IN2_zero ⟨Ext.refl _, OwnL.nil _ _ _⟩, ?_⟩
    rintro y _ w2 ⟨j, rfl, hj, hE2, hO2⟩
    intros
    have hz2 := hE2.size_le
    refine cond_dec (fun hlt2 => ?_) (fun hge2 => ?_)
    · have hj' : j < L[i].length := by omega
      refine (hrow.any.ext hE2).ixI hj' fun q2 hI hc2 => LD_int hc2 ?_
      have e : IntKind.i64.wrap (L[i][j] + 0) = L[i][j] := by rw [Int.add_zero]; exact wrap_of (by have := hI.1; omega) (by have := hI.2; omega)
      rw [e]
      refine RUN_lit1 (α := Int) slt_int L[i][j] rfl (by decide) fun x w3 hE3 hO3 => ?_
      refine RUN_appendF (α := Int) slt_int (hO2.ext hE3) (by have := hE3.size_le; omega) (hO3.rep (by intro v hv; simp at hv; subst hv; exact hI)).any (by simp; omega) (by simp [maxLen]; omega) fun y' w4 hO4 hs4 hn4 => ?_
      refine IN2_next (by omega) hj' ⟨hs4.ext0 (hE2.trans hE3) fun k hk => (hO2.blk k hk).1, ?_⟩
      rw [List.take_succ_eq_append_getElem hj']
      exact hO4
    · have : j = L[i].length := by omega
      subst this
      rw [List.take_length] at hO2
      refine RUN_lit1 (α := Sl) slt_rows y rfl (by decide) fun x w5 hE5 hO5 => ?_
      have hz5 := hE5.size_le
      refine RUN_append_rowD slt_rows (by decide) (hM1.ext (hE2.trans hE5)) (by omega) ((hO2.ext hE5).low hz1) (hM1.fresh hO2 (Nat.le_refl _)) hO5 (by simp; omega) (by simp [maxLen]; omega) fun s' w6 hM6 hs6 => ?_
      refine IN2_next (by omega) hi' ⟨hs6.ext0 (hE1.trans (hE2.trans hE5)) fun k hk => (hM1.own.blk k hk).1, ss ++ [y], ?_⟩
      rw [List.take_succ_eq_append_getElem hi']
      exact hM6
  · have : i = L.length := by omega
    subst this
    rw [List.take_length] at hM1
    exact ⟨hE1, hM1.own2.repD hL64⟩

theorem sEliminateTimes_ok {w : World} {c d : Sl} {p : Prob} {k : Int} (h : RProb w c d p) (hs : SmallP p) :
    Calls Tryz.prog F.s_EliminateTimes #[.agg #[.int .i64 p.labels, .int .i64 p.degree, c.v, d.v], .int .i64 k] w (Ret [.at .sl, .at .bool] fun (s : Sl) (ok : Bool) w' => Ext w w' ∧ TmIs p k s ok w') := by
  refine C_s_EliminateTimes ?_
  unfold V_s_EliminateTimes
  refine NEW_intro fun pp w1 hp1 hs1 hE hb1 => LD_iiss hb1 ?_
  replace h := h.ext hE
  refine call (prGood_ok h) ?_
  rintro x w2 ⟨hx, hE2⟩
  replace hE := hE.ext hE2
  replace h := h.ext hE2
  replace hb1 := hb1.ext hE2
  refine cond_not (fun hf => ⟨hE, .inr ⟨rfl, fun hA => by rw [hx.2 hA.ok.1] at hf; cases hf⟩⟩) (fun ht => ?_)
  have hg := hx.1 ht
  refine call (l1In_ok _ _ _ _) ?_
  rintro _ _ ⟨rfl, rfl⟩
  refine cond_not (fun hf => ⟨hE, .inr ⟨rfl, fun hA => inR_false hf ⟨hA.k0, hA.k5⟩⟩⟩) (fun ht2 => ?_)
  have hk := inR_true ht2
  unfold V_s_EliminateTimes_k1
  intro w5 hE5 _
  replace hE := hE.ext hE5
  replace h := h.ext hE5
  replace hb1 := hb1.ext hE5
  refine LD_bi0 hb1 (LD_bi1 hb1 (LD_bs2 hb1 (LD_bs3 hb1 ?_)))
  refine call (reOwn_ok h.nodes hs.1) ?_
  rintro z w6 ⟨hE6, hz⟩
  refine ⟨hE6, ?_⟩
  refine call (reOwn_ok (h.edges.ext hE6) hs.2) ?_
  rintro u w7 ⟨hE7, hu⟩
  have hE67 := hE6.trans hE7
  refine ⟨hE67, hE67, ?_⟩
  refine RUN_lit1 (α := PRec) slt_prob ⟨p.labels, p.degree, z, u⟩ rfl (by decide) fun s w8 hE8 hO8 => ⟨hE67.trans hE8, ?_⟩
  have hz6 := hE6.size_le
  have hz7 := hE7.size_le
  have hz8 := hE8.size_le
  have hR0 : Recs w5.heap.size w8 s [p] := Recs.one hE8 hO8 (Nat.le_refl _) (by omega) ⟨h.labels, h.degree, (hz.any.ext hE7), hu.any⟩
  refine ⟨fun (out : Sl) w' => ∃ i, i ≤ k.toNat ∧ Ext w w' ∧ w5.heap.size ≤ w'.heap.size ∧ itOk p i ∧ Recs w5.heap.size w' out (timesP p i), fun out _ => k.toNat + 1 - out.len, ⟨0, by omega, hE.trans (hE67.trans hE8), by omega, ⟨hg, fun i hi => by omega⟩, by simpa [timesP, iterP] using hR0⟩, ?_⟩
  rintro out w9 ⟨i, hi', hE9, hz9, hok, hR9⟩
  intros
  have hol : out.len = i + 1 := by have := hR9.rep.len; rw [timesP_len] at this; omega
  refine cond_dec (fun hlt => ?_) (fun hge => ?_)
  · have hil : i < (timesP p i).length := by rw [timesP_len]; omega
    have e1 : IntKind.i64.wrap ((out.len : Int) - 1) = (i : Int) := by rw [wrap_of (by omega) (by omega)]; omega
    rw [e1]
    refine slr_ixP hR9.rep hil fun q zq uq hP hc => LD_pcells hc ?_
    have eg := timesP_get hil
    rw [eg] at hP ⊢
    have hgi := hok.good i (Nat.le_refl _)
    refine call (sEliminateRound_ok hP) ?_
    rintro x y z2 u2 a1 a2 b w10 ⟨hE10, hr⟩
    refine NEW_ST (one4p _ _ _ _) rfl fun pq w12 hpq hE12 hb12 => ?_
    rcases hr with ⟨rfl, hfw, rfl, rfl, hP2⟩ | ⟨rfl, hnf⟩
    · refine cond_not (fun hf => by cases hf) (fun _ => LD_iiss hb12 ?_)
      replace hP2 := hP2.ext hE12
      refine RUN_lit1 (α := PRec) slt_prob ⟨(roundP (iterP p i)).labels, (roundP (iterP p i)).degree, z2, u2⟩ rfl (by decide) fun y13 w13 hE13 hO13 => ?_
      replace hP2 := hP2.ext hE13
      have hEx := (hE10.trans hE12).trans hE13
      have hzx := hEx.size_le
      refine RUN_append_rec hR9 hz9 hEx hP2.nodes hP2.edges hP2.labels hP2.degree (by rw [timesP_len]; omega) hO13 fun s' w14 hR14 hs14 => ?_
      have hz14 := hs14.size
      have hl14 : s'.len = i + 2 := by have := hR14.rep.len; rw [List.length_append, timesP_len] at this; simpa using this
      refine ⟨⟨i + 1, by omega, hs14.ext0 (hE9.trans hEx) fun k hk => by have := (hR9.blk hk).1; have := hE.size_le; omega, by omega, hok.snoc hfw.2, ?_⟩, by simp only []; omega⟩
      rw [timesP_snoc]
      exact hR14
    · refine cond_not (fun _ => ⟨hE9.trans (hE10.trans hE12), .inr ⟨rfl, fun hA => hnf ⟨hgi, hA.ok.2 i (by omega)⟩⟩⟩) (fun ht => by cases ht)
  · have : i = k.toNat := by omega
    subst this
    exact ⟨hE9, .inl ⟨rfl, ⟨hk.1, hk.2, hok⟩, hR9.rep⟩⟩

end Go.Proofs.YtndebacmnpghkaaGreat
end

section
/- Zero rounds: configurations that are good, labelings with one, refusals; both sides. -/
namespace Go.Proofs.YtndebacmnpghkaaGreat
open Go.GX Go.RowKit
set_option maxRecDepth 100000

def zeroC (p : Prob) : Option (List Int) := p.nodes.find? fun c => (badIx p c).isNone
def zeroRow (c : List Int) (k : Nat) : List Int := if k = c.length then c else List.replicate k (c.getD 0 0)

theorem zePairs_ok {w : World} {c d s t : Sl} {p : Prob} {x : List Int} (h : RProb w c d p) (hx : R w s x) (hy : R w t x) :
    Calls Tryz.prog F.s_zePairs #[.agg #[.int .i64 p.labels, .int .i64 p.degree, c.v, d.v], s.v, t.v] w (Ret [.at .bool] fun (b : Bool) w' => Ext w w' ∧ b = (badIx p x).isNone) := by
  refine C_s_zePairs ?_
  unfold V_s_zePairs
  refine NEW_intro fun pp w1 hp1 hs1 hE1 hb1 => LD_iiss hb1 ?_
  replace h := h.ext hE1
  replace hx := hx.ext hE1
  replace hy := hy.ext hE1
  refine call (zeBad_ok h hx hy) ?_
  rintro i j b w2 ⟨hE2, hr⟩
  refine ⟨hE1.trans hE2, ?_⟩
  cases hq : badIx p x with
  | none => rw [hq] at hr; simp only at hr; subst hr; rfl
  | some q => rw [hq] at hr; simp only at hr; rw [hr.1]; rfl

theorem isGood_ok {w : World} {c d s : Sl} {p : Prob} {x : List Int} (h : RProb w c d p) (hs : SmallP p) (hg : PGood p) (hx : R w s x) :
    Calls Tryz.prog F.i_isGoodPair #[.agg #[.int .i64 p.labels, .int .i64 p.degree, c.v, d.v], s.v, s.v] w (Ret [.at .bool] fun (b : Bool) w' => Ext w w' ∧ b = (badIx p x).isNone) := by
  refine call (isGoodPair_ok h hs hg hx hx) ?_
  rintro b w' ⟨hE, hb⟩
  refine ⟨hE, ?_⟩
  rw [Bool.eq_iff_iff, hb, Option.isNone_iff_eq_none, badIx_calm]
  rfl

theorem zero_step {p : Prob} {i : Nat} (hi : i < p.nodes.length) (h : zeroC p = (p.nodes.drop i).find? fun c => (badIx p c).isNone) :
    ((badIx p p.nodes[i]).isNone = true → zeroC p = some p.nodes[i]) ∧ ((badIx p p.nodes[i]).isNone = false → zeroC p = (p.nodes.drop (i + 1)).find? fun c => (badIx p c).isNone) := by
  rw [List.drop_eq_getElem_cons hi] at h
  constructor
  · intro ht
    rw [h, List.find?_cons]
    simp [ht]
  · intro hf
    rw [h, List.find?_cons]
    simp [hf]

def ZcIs (w : World) (p : Prob) (s : Sl) (b : Bool) (w' : World) : Prop := Ext w w' ∧ match zeroC p with | some c => b = true ∧ OwnL w' w.heap.size T.t_int s c | none => b = false

theorem zeGood_ok {w : World} {c d : Sl} {p : Prob} (h : RProb w c d p) (hs : SmallP p) :
    Calls Tryz.prog F.s_zeGood #[.agg #[.int .i64 p.labels, .int .i64 p.degree, c.v, d.v]] w (Ret [.at .sl, .at .bool] fun (s : Sl) (b : Bool) w' => ZcIs w p s b w') := by
  refine C_s_zeGood ?_
  unfold V_s_zeGood
  refine NEW_intro fun pp w1 hp1 hs1 hE hb1 => LD_bs2 hb1 ?_
  replace h := h.ext hE
  have hn := hs.1.1
  rw [h.nodes.len]
  refine ⟨IN p.nodes.length fun i w' => Ext w1 w' ∧ zeroC p = (p.nodes.drop i).find? fun c => (badIx p c).isNone, MN p.nodes.length, IN_zero ⟨Ext.refl _, rfl⟩, ?_⟩
  rintro _ w2 ⟨i, rfl, hi, hE2, hI⟩
  intros
  refine cond_dec (fun hlt => ?_) (fun hge => ⟨hE.trans hE2, ?_⟩)
  · have hi' : i < p.nodes.length := by omega
    have hst := zero_step hi' hI
    replace h := h.ext hE2
    replace hb1 := hb1.ext hE2
    refine h.nodes.ixL hi' fun q row hrow hc => LD_sl hc (LD_iiss hb1 ?_)
    refine call (zePairs_ok h hrow.any hrow.any) ?_
    rintro b w3 ⟨hE3, rfl⟩
    refine cond_b (fun ht => ?_) (fun hf => IN_next h.nodes.le hi' ⟨hE2.trans hE3, hst.2 hf⟩)
    refine call (l1Own_ok (hrow.any.ext hE3) (hs.1.2 _ (List.getElem_mem hi'))) ?_
    rintro r w4 ⟨hE4, hO4⟩
    refine ⟨hE.trans (hE2.trans (hE3.trans hE4)), ?_⟩
    rw [hst.1 ht]
    exact ⟨rfl, hO4.low (hE.trans (hE2.trans hE3)).size_le⟩
  · have : i = p.nodes.length := by omega
    subst this
    rw [hI, List.drop_length, List.find?_nil]

theorem ZeroConfiguration_ok {w : World} {c d : Sl} {p : Prob} (h : RProb w c d p) (hs : SmallP p) (hg : PGood p) :
    Calls Tryz.prog F.i_ZeroConfiguration #[.agg #[.int .i64 p.labels, .int .i64 p.degree, c.v, d.v]] w (Ret [.at .sl, .at .bool] fun (s : Sl) (b : Bool) w' => ZcIs w p s b w') := by
  refine C_i_ZeroConfiguration ?_
  unfold V_i_ZeroConfiguration
  refine NEW_intro fun pp w1 hp1 hs1 hE hb1 => LD_iiss hb1 ?_
  replace h := h.ext hE
  refine call (IsProblem_ok h) ?_
  rintro x w2 ⟨hx, hE2⟩
  replace hE := hE.ext hE2
  replace h := h.ext hE2
  replace hb1 := hb1.ext hE2
  refine cond_not (fun hf => by rw [hx.2 hg] at hf; cases hf) (fun _ => LD_bs2 hb1 ?_)
  have hn := hs.1.1
  rw [h.nodes.len]
  refine ⟨IN p.nodes.length fun i w' => Ext w2 w' ∧ zeroC p = (p.nodes.drop i).find? fun c => (badIx p c).isNone, MN p.nodes.length, IN_zero ⟨Ext.refl _, rfl⟩, ?_⟩
  rintro _ w3 ⟨i, rfl, hi, hE3, hI⟩
  intros
  refine cond_dec (fun hlt => ?_) (fun hge => ⟨hE.trans hE3, ?_⟩)
  · have hi' : i < p.nodes.length := by omega
    have hst := zero_step hi' hI
    replace h := h.ext hE3
    replace hb1 := hb1.ext hE3
    refine h.nodes.ixL hi' fun q row hrow hc => LD_sl hc (LD_iiss hb1 ?_)
    refine call (isGood_ok h hs hg hrow.any) ?_
    rintro b w4 ⟨hE4, rfl⟩
    refine cond_b (fun ht => ?_) (fun hf => IN_next h.nodes.le hi' ⟨hE3.trans hE4, hst.2 hf⟩)
    refine call (clone_ok (hrow.any.ext hE4) (hs.1.2 _ (List.getElem_mem hi'))) ?_
    rintro r w5 ⟨hE5, hO5⟩
    refine ⟨hE.trans (hE3.trans (hE4.trans hE5)), ?_⟩
    rw [hst.1 ht]
    exact ⟨rfl, hO5.low (hE.trans (hE3.trans hE4)).size_le⟩
  · have : i = p.nodes.length := by omega
    subst this
    rw [hI, List.drop_length, List.find?_nil]

theorem sZeroConfiguration_ok {w : World} {c d : Sl} {p : Prob} (h : RProb w c d p) (hs : SmallP p) (hg : PGood p) :
    Calls Tryz.prog F.s_ZeroConfiguration #[.agg #[.int .i64 p.labels, .int .i64 p.degree, c.v, d.v]] w (Ret [.at .sl, .at .bool] fun (s : Sl) (b : Bool) w' => ZcIs w p s b w') := by
  refine C_s_ZeroConfiguration ?_
  unfold V_s_ZeroConfiguration
  refine NEW_intro fun pp w1 hp1 hs1 hE hb1 => LD_iiss hb1 ?_
  replace h := h.ext hE
  refine call (prGood_ok h) ?_
  rintro x w2 ⟨hx, hE2⟩
  replace hE := hE.ext hE2
  replace h := h.ext hE2
  replace hb1 := hb1.ext hE2
  refine cond_not (fun hf => by rw [hx.2 hg] at hf; cases hf) (fun _ => LD_iiss hb1 ?_)
  refine call (zeGood_ok h hs) ?_
  rintro s b w3 ⟨hE3, hr⟩
  refine ⟨hE.trans hE3, ?_⟩
  cases hz : zeroC p with
  | none => rw [hz] at hr; exact hr
  | some c => rw [hz] at hr; exact ⟨hr.1, hr.2.low hE.size_le⟩

/-! ### Labelings with one configuration -/

theorem zero_conf {p : Prob} (hg : PGood p) {c : List Int} (h : zeroC p = some c) : (c.length : Int) = p.degree ∧ ∀ x ∈ c, I64 x := by
  have hm := List.mem_of_find?_eq_some h
  obtain ⟨i, hi, rfl⟩ := List.mem_iff_getElem.1 hm
  have h1 := hg.nodes.row i hi
  have hl := hg.lab
  exact ⟨h1.1, fun x hx => by have := h1.2.2 x hx; unfold I64; omega⟩

theorem labelsFor_ok {w : World} {s : Sl} {c : List Int} (h : R w s c) (hc : 0 < c.length) (hcl : c.length ≤ 1000) {k : Nat} (hk : k ≤ 1000) :
    Calls Tryz.prog F.i_labelsFor #[s.v, .int .i64 k] w (Ret [.at .sl] fun (r : Sl) w' => Ext w w' ∧ OwnL w' w.heap.size T.t_int r (zeroRow c k)) := by
  refine C_i_labelsFor ?_
  unfold V_i_labelsFor
  rw [h.len]
  refine cond_eq (fun he => ?_) (fun hne => ?_)
  · have hkc : k = c.length := by have : (k : Int) = (c.length : Int) := he; omega
    refine call (clone_ok h (by omega)) ?_
    rintro r w1 ⟨hE1, hO1⟩
    unfold zeroRow
    rw [if_pos hkc]
    exact ⟨hE1, hO1⟩
  · have hkc : k ≠ c.length := fun e => hne (by rw [e])
    refine SlR.take (i := 1) h hc rfl fun s1 hs1 => ?_
    have e1 : c.take 1 = [c[0]] := by
      cases c with
      | nil => cases hc
      | cons a l => rfl
    rw [e1] at hs1
    refine call (repeat_ok hs1 (flat_ok h _ (List.getElem_mem hc)) (by omega)) ?_
    rintro r w1 ⟨hE1, hO1⟩
    unfold zeroRow
    rw [if_neg hkc, get_at hc]
    exact ⟨hE1, hO1⟩

theorem zeRow_ok {w : World} {c d s : Sl} {p : Prob} {x : List Int} (hx : R w s x) (hxd : (x.length : Int) = p.degree) (hc : 0 < x.length) (hcl : x.length ≤ 1000) {k : Nat} (hk : k ≤ 1000) :
    Calls Tryz.prog F.s_zeRow #[.agg #[.int .i64 p.labels, .int .i64 p.degree, c.v, d.v], s.v, .int .i64 k] w (Ret [.at .sl] fun (r : Sl) w' => Ext w w' ∧ OwnL w' w.heap.size T.t_int r (zeroRow x k)) := by
  refine C_s_zeRow ?_
  unfold V_s_zeRow
  refine NEW_intro fun pp w1 hp1 hs1 hE hb1 => LD_bi1 hb1 ?_
  replace hx := hx.ext hE
  have hz := hE.size_le
  have h64 := flat_ok hx
  refine cond_eq (fun he => ?_) (fun hne => ?_)
  · have hkc : k = x.length := by have : (k : Int) = p.degree := he; omega
    refine call (l1Own_ok hx (by omega)) ?_
    rintro r w2 ⟨hE2, hO2⟩
    unfold zeroRow
    rw [if_pos hkc]
    exact ⟨hE.trans hE2, hO2.low hz⟩
  · have hkc : k ≠ x.length := fun e => hne (by rw [← hxd, e])
    refine RUN_makeI rfl hk fun r w2 hE2 hO2 => ?_
    have hz2 := hE2.size_le
    rw [hO2.1, List.length_replicate]
    refine ⟨IN k fun i w' => Ext w w' ∧ Ext w1 w' ∧ OwnL w' w1.heap.size T.t_int r (List.replicate i (x.getD 0 0) ++ List.replicate (k - i) 0), MN k, IN_zero ⟨hE.trans hE2, hE2, by simpa using hO2⟩, ?_⟩
    rintro _ w3 ⟨i, rfl, hi, hE3, hE13, hO3⟩
    intros
    refine cond_dec (fun hlt => ?_) (fun hge => ?_)
    · have hi' : i < k := by omega
      refine (hx.ext hE13).ixI (i := 0) hc fun q hI hcc => LD_int hcc ?_
      refine IX_own hO3 (i := i) (by simp; omega) rfl fun q hq => ?_
      refine ST_own hO3 (i := i) (by simp; omega) hq x[0] rfl fun w4 hO4 hs4 => ?_
      refine IN_next (by omega) hi' ⟨hs4.ext0 hE3 fun b hb => by have := (hO3.blk b hb).1; omega, hs4.ext0 hE13 fun b hb => (hO3.blk b hb).1, ?_⟩
      have e : (List.replicate i (x.getD 0 0) ++ List.replicate (k - i) 0).set i x[0] = List.replicate (i + 1) (x.getD 0 0) ++ List.replicate (k - (i + 1)) 0 := by
        rw [List.set_append_right _ _ (by simp), List.length_replicate, Nat.sub_self]
        obtain ⟨m, hm⟩ : ∃ m, k - i = m + 1 := ⟨k - i - 1, by omega⟩
        rw [hm, List.replicate_succ, List.set_cons_zero, show k - (i + 1) = m by omega, get_at hc, List.replicate_succ']
        simp
      rw [← e]
      exact hO4
    · have : i = k := by omega
      subst this
      rw [Nat.sub_self, List.replicate_zero, List.append_nil] at hO3
      unfold zeroRow
      rw [if_neg hkc]
      exact ⟨hE3, hO3.low hz⟩

def zeroL (p : Prob) (n : Net) : Option (List (List Int)) := (zeroC p).map fun c => n.ends.map fun r => zeroRow c r.length

theorem zeroRow_I64 {c : List Int} (h : ∀ x ∈ c, I64 x) (hc : 0 < c.length) (k : Nat) : ∀ x ∈ zeroRow c k, I64 x := fun x hx => by
  unfold zeroRow at hx
  by_cases hk : k = c.length
  · rw [if_pos hk] at hx; exact h x hx
  · rw [if_neg hk] at hx
    rw [(List.mem_replicate.1 hx).2, get_at hc]
    exact h _ (List.getElem_mem hc)
theorem zeroRow_len (c : List Int) (k : Nat) : (zeroRow c k).length = k := by
  unfold zeroRow
  by_cases hk : k = c.length
  · rw [if_pos hk, hk]
  · rw [if_neg hk, List.length_replicate]

def ZlIs (w : World) (p : Prob) (n : Net) (s : Sl) (b : Bool) (w' : World) : Prop := Ext w w' ∧ match zeroL p n with | some L => b = true ∧ OutM w.heap.size w' s L | none => b = false ∧ s = ⟨none, 0, 0⟩

theorem ZeroLabeling_ok {w : World} {c d a b e : Sl} {p : Prob} {n : Net} (h : RProb w c d p) (hs : SmallP p) (hg : PGood p) (hN : RNet w a b e n) (hn : Small n) (hgn : Good n) :
    Calls Tryz.prog F.i_ZeroLabeling #[.agg #[.int .i64 p.labels, .int .i64 p.degree, c.v, d.v], .agg #[a.v, b.v, e.v]] w (Ret [.at .sl, .at .bool] fun (s : Sl) (b : Bool) w' => ZlIs w p n s b w') := by
  refine C_i_ZeroLabeling ?_
  unfold V_i_ZeroLabeling
  refine NEW_intro fun pp w1 hp1 hs1 hE1 hb1 => NEW_intro fun pn w2 hp2 hs2 hE2 hb2 => ?_
  have hE := hE1.trans hE2
  replace h := h.ext hE
  replace hN := hN.ext hE
  replace hb1 := hb1.ext hE2
  have hd := hg.deg
  refine LD_iiss hb1 ?_
  refine call (ZeroConfiguration_ok h hs hg) ?_
  rintro s1 b1 w3 ⟨hE3, hr⟩
  replace hE := hE.ext hE3
  replace h := h.ext hE3
  replace hN := hN.ext hE3
  replace hb1 := hb1.ext hE3
  replace hb2 := hb2.ext hE3
  cases hz : zeroC p with
  | none =>
    rw [hz] at hr
    simp only at hr
    subst hr
    refine cond_not (fun _ => ⟨hE, ?_⟩) (fun ht => by cases ht)
    unfold zeroL
    rw [hz]
    exact ⟨rfl, rfl⟩
  | some cc =>
    rw [hz] at hr
    simp only at hr
    obtain ⟨rfl, hO⟩ := hr
    obtain ⟨hcd, hc64⟩ := zero_conf hg hz
    have hc0 : 0 < cc.length := by omega
    refine cond_not (fun hf => by cases hf) (fun _ => LD_box3 hb2 ?_)
    refine call (isNetwork_ok hN hn.2.2.1) ?_
    rintro x w4 ⟨hx, hE4⟩
    replace hE := hE.ext hE4
    replace h := h.ext hE4
    replace hN := hN.ext hE4
    replace hb1 := hb1.ext hE4
    replace hb2 := hb2.ext hE4
    replace hO := hO.ext hE4
    refine cond_not (fun hf => by rw [hx.2 hgn] at hf; cases hf) (fun _ => ?_)
    unfold V_i_ZeroLabeling_k1
    refine LD_bs0 hb2 ?_
    rw [hN.1.len]
    have h40 := hgn.size.2
    have hcR := (hO.rep hc64).any
    refine ⟨IN2 n.ends.length fun i (out : Sl) w' => Ext w4 w' ∧ ∃ ss, RowsD w' w4.heap.size T.t_int T.t_sl_int out ((n.ends.take i).map fun r => zeroRow cc r.length) ss, MN2 n.ends.length, IN2_zero ⟨Ext.refl _, [], by simpa using RowsD.nil _ _ _ _⟩, ?_⟩
    rintro out _ w5 ⟨i, rfl, hi, hE5, ss, hM⟩
    intros
    have hz5 := hE5.size_le
    refine cond_dec (fun hlt => ?_) (fun hge => ?_)
    · have hi' : i < n.ends.length := by omega
      have h6 := hgn.deg hi'
      refine (hN.1.ext hE5).ixL hi' fun q row hrow hc => LD_sl hc ?_
      rw [hrow.len]
      refine call (labelsFor_ok (hcR.ext hE5) hc0 (by omega) (by omega)) ?_
      rintro r w6 ⟨hE6, hO6⟩
      refine RUN_lit1 (α := Sl) slt_rows r rfl (by decide) fun y w7 hE7 hO7 => ?_
      have hz6 := hE6.size_le
      have hz7 := hE7.size_le
      refine RUN_append_rowD slt_rows (by decide) (hM.ext (hE6.trans hE7)) (by omega) ((hO6.ext hE7).low hz5) (hM.fresh hO6 (Nat.le_refl _)) hO7 (by simp; omega) (by simp [maxLen]; omega) fun s' w8 hM8 hs8 => ?_
      refine IN2_next (by omega) hi' ⟨hs8.ext0 (hE5.trans (hE6.trans hE7)) fun k hk => (hM.own.blk k hk).1, ss ++ [r], ?_⟩
      rw [List.take_succ_eq_append_getElem hi', List.map_append, List.map_singleton]
      exact hM8
    · have : i = n.ends.length := by omega
      subst this
      rw [List.take_length] at hM
      refine ⟨hE.trans hE5, ?_⟩
      unfold zeroL
      rw [hz]
      refine ⟨rfl, ⟨ss, hM.low hE.size_le⟩, fun r hr => ?_, by simp; omega, fun r hr => ?_⟩
      · obtain ⟨q, _, rfl⟩ := List.mem_map.1 hr
        exact zeroRow_I64 hc64 hc0 _
      · obtain ⟨q, hq, rfl⟩ := List.mem_map.1 hr
        obtain ⟨j, hj, rfl⟩ := List.mem_iff_getElem.1 hq
        have := hgn.deg hj
        rw [zeroRow_len]
        omega


theorem sZeroLabeling_ok {w : World} {c d a b e : Sl} {p : Prob} {n : Net} (h : RProb w c d p) (hs : SmallP p) (hg : PGood p) (hN : RNet w a b e n)  (hgn : Good n) :
    Calls Tryz.prog F.s_ZeroLabeling #[.agg #[.int .i64 p.labels, .int .i64 p.degree, c.v, d.v], .agg #[a.v, b.v, e.v]] w (Ret [.at .sl, .at .bool] fun (s : Sl) (b : Bool) w' => ZlIs w p n s b w') := by
  refine C_s_ZeroLabeling ?_
  unfold V_s_ZeroLabeling
  refine NEW_intro fun pp w1 hp1 hs1 hE1 hb1 => NEW_intro fun pn w2 hp2 hs2 hE2 hb2 => ?_
  have hE := hE1.trans hE2
  replace h := h.ext hE
  replace hN := hN.ext hE
  replace hb1 := hb1.ext hE2
  have hd := hg.deg
  refine LD_iiss hb1 ?_
  refine call (sZeroConfiguration_ok h hs hg) ?_
  rintro s1 b1 w3 ⟨hE3, hr⟩
  replace hE := hE.ext hE3
  replace h := h.ext hE3
  replace hN := hN.ext hE3
  replace hb1 := hb1.ext hE3
  replace hb2 := hb2.ext hE3
  cases hz : zeroC p with
  | none =>
    rw [hz] at hr
    simp only at hr
    subst hr
    refine cond_not (fun _ => ⟨hE, ?_⟩) (fun ht => by cases ht)
    unfold zeroL
    rw [hz]
    exact ⟨rfl, rfl⟩
  | some cc =>
    rw [hz] at hr
    simp only at hr
    obtain ⟨rfl, hO⟩ := hr
    obtain ⟨hcd, hc64⟩ := zero_conf hg hz
    have hc0 : 0 < cc.length := by omega
    refine cond_not (fun hf => by cases hf) (fun _ => LD_box3 hb2 ?_)
    refine call (neGood_ok hN) ?_
    rintro x w4 ⟨hx, hE4⟩
    replace hE := hE.ext hE4
    replace h := h.ext hE4
    replace hN := hN.ext hE4
    replace hb1 := hb1.ext hE4
    replace hb2 := hb2.ext hE4
    replace hO := hO.ext hE4
    refine cond_not (fun hf => by rw [hx.2 hgn] at hf; cases hf) (fun _ => ?_)
    unfold V_s_ZeroLabeling_k1
    refine LD_bs0 hb2 ?_
    rw [hN.1.len]
    have h40 := hgn.size.2
    have hcR := (hO.rep hc64).any
    refine ⟨IN2 n.ends.length fun i (out : Sl) w' => Ext w4 w' ∧ ∃ ss, RowsD w' w4.heap.size T.t_int T.t_sl_int out ((n.ends.take i).map fun r => zeroRow cc r.length) ss, MN2 n.ends.length, IN2_zero ⟨Ext.refl _, [], by simpa using RowsD.nil _ _ _ _⟩, ?_⟩
    rintro out _ w5 ⟨i, rfl, hi, hE5, ss, hM⟩
    intros
    have hz5 := hE5.size_le
    refine cond_dec (fun hlt => ?_) (fun hge => ?_)
    · have hi' : i < n.ends.length := by omega
      have h6 := hgn.deg hi'
      refine (hN.1.ext hE5).ixL hi' fun q row hrow hc => LD_sl hc (LD_iiss (hb1.ext hE5) ?_)
      rw [hrow.len]
      refine call (zeRow_ok (p := p) (hcR.ext hE5) hcd hc0 (by omega) (by omega)) ?_
      rintro r w6 ⟨hE6, hO6⟩
      refine RUN_lit1 (α := Sl) slt_rows r rfl (by decide) fun y w7 hE7 hO7 => ?_
      have hz6 := hE6.size_le
      have hz7 := hE7.size_le
      refine RUN_append_rowD slt_rows (by decide) (hM.ext (hE6.trans hE7)) (by omega) ((hO6.ext hE7).low hz5) (hM.fresh hO6 (Nat.le_refl _)) hO7 (by simp; omega) (by simp [maxLen]; omega) fun s' w8 hM8 hs8 => ?_
      refine IN2_next (by omega) hi' ⟨hs8.ext0 (hE5.trans (hE6.trans hE7)) fun k hk => (hM.own.blk k hk).1, ss ++ [r], ?_⟩
      rw [List.take_succ_eq_append_getElem hi', List.map_append, List.map_singleton]
      exact hM8
    · have : i = n.ends.length := by omega
      subst this
      rw [List.take_length] at hM
      refine ⟨hE.trans hE5, ?_⟩
      unfold zeroL
      rw [hz]
      refine ⟨rfl, ⟨ss, hM.low hE.size_le⟩, fun r hr => ?_, by simp; omega, fun r hr => ?_⟩
      · obtain ⟨q, _, rfl⟩ := List.mem_map.1 hr
        exact zeroRow_I64 hc64 hc0 _
      · obtain ⟨q, hq, rfl⟩ := List.mem_map.1 hr
        obtain ⟨j, hj, rfl⟩ := List.mem_iff_getElem.1 hq
        have := hgn.deg hj
        rw [zeroRow_len]
        omega


end Go.Proofs.YtndebacmnpghkaaGreat
end

section
/- Solutions that some rounds make: both sides. -/
namespace Go.Proofs.YtndebacmnpghkaaGreat
open Go.GX Go.RowKit
set_option maxRecDepth 100000

theorem meStub_ok {w : World} {a b c : Sl} {n : Net} (h : RNet w a b c n) (hg : Good n) :
    Calls Tryz.prog F.s_meStub #[.agg #[a.v, b.v, c.v]] w (Ret [.at .bool] fun (x : Bool) w' => (x = false ↔ Stubless n.ends) ∧ Ext w w') := by
  refine C_s_meStub ?_
  unfold V_s_meStub
  refine NEW_intro fun pn w1 hp1 hs1 hE1 hb1 => LD_bs0 hb1 ?_
  have hE := (h.ext hE1).1
  have h40 := hg.size.2
  rw [hE.len]
  refine ⟨IN n.ends.length fun v w' => Ext w1 w' ∧ ∀ u i, u < v → port n.ends u i ≠ some ((u : Int), (i : Int)), MN n.ends.length, IN_zero ⟨Ext.refl _, fun u i hu => absurd hu (by omega)⟩, ?_⟩
  rintro _ w2 ⟨v, rfl, hv, hE2, hI⟩
  intros
  refine cond_dec (fun hlt => LD_bs0 (hb1.ext hE2) ?_) (fun hge => ?_)
  · have hv' : v < n.ends.length := by omega
    refine (hE.ext hE2).ixL hv' fun q row hrow hc => LD_sl hc ?_
    have hd := hg.deg hv'
    rw [hrow.len]
    refine ⟨IN n.ends[v].length fun j w' => Ext w2 w' ∧ ∀ i, i < j → port n.ends v i ≠ some ((v : Int), (i : Int)), MN n.ends[v].length, IN_zero ⟨Ext.refl _, fun i hi => absurd hi (by omega)⟩, ?_⟩
    rintro _ w3 ⟨j, rfl, hj, hE3, hJ⟩
    intros
    refine cond_dec (fun hlt2 => ?_) (fun hge2 => ?_)
    · have hj' : j < n.ends[v].length := by omega
      refine (hrow.ext hE3).ixE hj' fun q hI0 hI1 hc0 hc1 => LD_int2 hc0 hc1 ?_
      refine NEW_ST (one2 _ _) rfl fun pe w5 hpe hE5 hbe => LD_box2 hbe ?_
      refine AEQ_eql2 end_struct ?_
      refine cond_dec (fun heq => ⟨⟨fun hf => (by cases hf), fun hS => absurd (by rw [port_get hv' hj']; exact congrArg some heq) (hS v j)⟩, hE1.trans (hE2.trans (hE3.trans hE5))⟩) (fun hne => ?_)
      refine IN_next (by omega) hj' ⟨hE3.trans hE5, fun i hi => ?_⟩
      by_cases hij : i = j
      · subst hij
        rw [port_get hv' hj']
        intro hh
        exact hne (Option.some.inj hh)
      · exact hJ i (by omega)
    · have : j = n.ends[v].length := by omega
      subst this
      refine IN_next (by omega) hv' ⟨hE2.trans hE3, fun u i hu => ?_⟩
      by_cases huv : u = v
      · subst huv
        by_cases hi : i < n.ends[u].length
        · exact hJ i hi
        · intro hh
          obtain ⟨_, h2, _⟩ := port_some hh
          exact hi h2
      · exact hI u i (by omega)
  · have : v = n.ends.length := by omega
    subst this
    refine ⟨⟨fun _ u i hh => ?_, fun _ => rfl⟩, hE1.trans hE2⟩
    obtain ⟨h2, _, _⟩ := port_some hh
    exact hI u i h2 hh

noncomputable def backL (p : Prob) (n : Net) : Nat → Option (List (List Int)) → Option (List (List Int))
  | 0, o => o
  | i + 1, o => backL p n i (o.bind fun L => open Classical in if PrAsked (iterP p i) n L then some (roundL (iterP p i) n L) else none)

theorem backL_none (p : Prob) (n : Net) : ∀ i, backL p n i none = none
  | 0 => rfl
  | i + 1 => by rw [backL, Option.bind_none]; exact backL_none p n i
theorem backL_yes {p : Prob} {n : Net} {i : Nat} {L : List (List Int)} (h : PrAsked (iterP p i) n L) : backL p n (i + 1) (some L) = backL p n i (some (roundL (iterP p i) n L)) := by
  rw [backL, Option.bind_some, if_pos h]
theorem backL_no {p : Prob} {n : Net} {i : Nat} {L : List (List Int)} (h : ¬ PrAsked (iterP p i) n L) : backL p n (i + 1) (some L) = none := by
  rw [backL, Option.bind_some, if_neg h, backL_none]

structure SeAsked (p : Prob) (n : Net) (k : Int) : Prop where
  times : TmAsked p k
  net : Good n
  stub : Stubless n.ends

noncomputable def solveE (p : Prob) (n : Net) (k : Int) : Option (List (List Int)) := open Classical in if SeAsked p n k then backL p n k.toNat (zeroL (iterP p k.toNat) n) else none

def SeG (p : Prob) (n : Net) (k : Int) : Prop := ∃ L, solveE p n k = some L
noncomputable def seL (p : Prob) (n : Net) (k : Int) : List (List Int) := (solveE p n k).getD []

theorem se_no {p : Prob} {n : Net} {k : Int} (h : ¬ SeAsked p n k) : ¬ SeG p n k := by
  rintro ⟨L, hL⟩
  unfold solveE at hL
  rw [if_neg h] at hL
  cases hL
theorem se_none {p : Prob} {n : Net} {k : Int} (h : SeAsked p n k) (hb : backL p n k.toNat (zeroL (iterP p k.toNat) n) = none) : ¬ SeG p n k := by
  rintro ⟨L, hL⟩
  unfold solveE at hL
  rw [if_pos h, hb] at hL
  cases hL
theorem se_some {p : Prob} {n : Net} {k : Int} (h : SeAsked p n k) {L : List (List Int)} (hb : backL p n k.toNat (zeroL (iterP p k.toNat) n) = some L) : SeG p n k ∧ seL p n k = L := by
  have e : solveE p n k = some L := by unfold solveE; rw [if_pos h, hb]
  exact ⟨⟨L, e⟩, by unfold seL; rw [e]; rfl⟩

set_option maxHeartbeats 800000 in
theorem SolveByElimination_ok {w : World} {c d a b e : Sl} {p : Prob} {n : Net} {k : Int} (h : RProb w c d p) (hN : RNet w a b e n) (_hk : I64 k) (hsp : SmallP p) (hn : Small n) :
    Calls Tryz.prog F.i_SolveByElimination #[.agg #[.int .i64 p.labels, .int .i64 p.degree, c.v, d.v], .agg #[a.v, b.v, e.v], .int .i64 k] w (Ret [.at .sl, .at .bool] fun (r : Sl) (y : Bool) w' => Ext w w' ∧ ∃ m, OutM w.heap.size w' r m ∧ AnsG (SeG p n k) (seL p n k) [] m y) := by
  refine C_i_SolveByElimination ?_
  unfold V_i_SolveByElimination
  refine NEW_intro fun pp w1 hp1 hs1 hE1 hb1 => NEW_intro fun pn w2 hp2 hs2 hE2 hb2 => ?_
  have hE := hE1.trans hE2
  replace h := h.ext hE
  replace hN := hN.ext hE
  replace hb1 := hb1.ext hE2
  have hnil : ∀ {w' : World}, Ext w w' → ¬ SeAsked p n k → Ext w w' ∧ ∃ m, OutM w.heap.size w' (⟨none, 0, 0⟩ : Sl) m ∧ AnsG (SeG p n k) (seL p n k) [] m false := fun hE' hno => ⟨hE', [], OutM.nil _ _, .no (se_no hno)⟩
  refine LD_iiss hb1 ?_
  refine call (EliminateTimes_ok h hsp) ?_
  rintro s ok w3 ⟨hE3, hr⟩
  replace hE := hE.ext hE3
  replace h := h.ext hE3
  replace hN := hN.ext hE3
  replace hb2 := hb2.ext hE3
  rcases hr with ⟨rfl, hT, hR⟩ | ⟨rfl, hT⟩
  · refine cond_not (fun hf => by cases hf) (fun _ => LD_box3 hb2 ?_)
    refine call (isNetwork_ok hN hn.2.2.1) ?_
    rintro x w4 ⟨hx, hE4⟩
    replace hE := hE.ext hE4
    replace h := h.ext hE4
    replace hN := hN.ext hE4
    replace hb2 := hb2.ext hE4
    replace hR := hR.ext hE4
    refine cond_not (fun hf => hnil hE fun hA => by rw [hx.2 hA.net] at hf; cases hf) (fun ht => LD_box3 hb2 ?_)
    have hg := hx.1 ht
    refine call (edges_ok hN hg) ?_
    rintro r3 w5 ⟨hE5, hO5⟩
    replace hE := hE.ext hE5
    replace h := h.ext hE5
    replace hN := hN.ext hE5
    replace hb2 := hb2.ext hE5
    replace hR := hR.ext hE5
    refine call (containsFuncQ_ok (hO5.rep (edge_I64 hg)).any (p := Stub) fun q hq w' hw' => CALLV_mk (by kernel_rfl) (by simpa using stub_ok q w')) ?_
    rintro zz w6 ⟨hzz, hE6⟩
    replace hE := hE.ext hE6
    replace h := h.ext hE6
    replace hN := hN.ext hE6
    replace hb2 := hb2.ext hE6
    replace hR := hR.ext hE6
    refine cond_b (fun ht => hnil hE fun hA => by rw [hzz, (stubless_iff hg).2 hA.stub] at ht; cases ht) (fun hfs => ?_)
    have hst : Stubless n.ends := (stubless_iff hg).1 (by rw [← hzz]; exact hfs)
    have hA : SeAsked p n k := ⟨hT, hg, hst⟩
    unfold V_i_SolveByElimination_k1
    intro w8 hE8 _
    replace hE := hE.ext hE8
    replace h := h.ext hE8
    replace hN := hN.ext hE8
    replace hb2 := hb2.ext hE8
    replace hR := hR.ext hE8
    have hk0 := hT.k0
    have hk5 := hT.k5
    obtain ⟨K, rfl⟩ := Int.eq_ofNat_of_zero_le hk0
    have hK : ((K : Nat) : Int).toNat = K := Int.toNat_natCast K
    rw [hK] at hR
    have hKl : K < (timesP p K).length := by rw [timesP_len]; omega
    have hokT : itOk p K := by have := hT.ok; rwa [hK] at this
    refine slr_ixP hR hKl fun q zq uq hP hc => LD_pcells hc (LD_box3 hb2 ⟨Ext.refl _, ?_⟩)
    have eg := timesP_get hKl
    rw [eg] at hP ⊢
    refine call (ZeroLabeling_ok hP (hokT.small hsp K (Nat.le_refl _)) (hokT.good K (Nat.le_refl _)) hN hn hg) ?_
    rintro s1 b1 w9 ⟨hE9, hz⟩
    have hsz := hE.size_le
    replace hE := hE.ext hE9
    replace h := h.ext hE9
    replace hN := hN.ext hE9
    replace hb2 := hb2.ext hE9
    replace hR := hR.ext hE9
    refine ⟨hE9, hE9, hE9, ?_⟩
    refine ⟨fun (ok : Bool) (l : Sl) (i : Int) w' => Ext w w' ∧ Ext w9 w' ∧ ∃ j : Nat, i = (j : Int) - 1 ∧ j ≤ K ∧ ((ok = true ∧ ∃ L, OutM w.heap.size w' l L ∧ backL p n j (some L) = backL p n K (zeroL (iterP p K) n)) ∨ (ok = false ∧ OutM w.heap.size w' l [] ∧ backL p n K (zeroL (iterP p K) n) = none)), fun _ _ i _ => (i + 1).toNat, ⟨hE, Ext.refl _, K, ?_, Nat.le_refl _, ?_⟩, ?_⟩
    · rw [wrap_of (by omega) (by omega)]
    · cases hq : zeroL (iterP p K) n with
      | none =>
        rw [hq] at hz
        obtain ⟨rfl, rfl⟩ := hz
        exact .inr ⟨rfl, OutM.nil _ _, backL_none p n K⟩
      | some L =>
        rw [hq] at hz
        exact .inl ⟨hz.1, L, hz.2.low hsz, rfl⟩
    · rintro ok l i w10 ⟨hE10, hE910, j, rfl, hj, hst⟩
      intros
      have hbad : ∀ {w' : World} {l : Sl}, Ext w w' → OutM w.heap.size w' l [] → backL p n K (zeroL (iterP p K) n) = none → Ext w w' ∧ ∃ m, OutM w.heap.size w' l m ∧ AnsG (SeG p n (K : Int)) (seL p n (K : Int)) [] m false := fun h1 h2 h3 => ⟨h1, [], h2, .no (se_none hA (by rw [hK]; exact h3))⟩
      refine cond_dec (fun hge => ?_) (fun hlt => ?_)
      · rcases hst with ⟨rfl, L, hL, hb⟩ | ⟨rfl, hL, hb⟩
        · refine cond_t rfl ?_
          obtain ⟨i, rfl⟩ : ∃ i, j = i + 1 := ⟨j - 1, by omega⟩
          unfold V_i_SolveByElimination_k4
          intro w12 hE12 _
          replace hE10 := hE10.ext hE12
          replace hE910 := hE910.ext hE12
          replace hL := hL.ext hE12
          have hil : i < (timesP p K).length := by rw [timesP_len]; omega
          have ei : ((i + 1 : Nat) : Int) - 1 = (i : Int) := by omega
          rw [ei]
          refine slr_ixP (hR.ext hE910) hil fun q2 z2 u2 hP2 hc2 => LD_pcells hc2 (LD_box3 (hb2.ext hE910) ⟨Ext.refl _, ?_⟩)
          have eg2 := timesP_get hil
          rw [eg2] at hP2 ⊢
          refine call (PullRound_ok hP2 (hN.ext hE910) hL.rep (hokT.small hsp i (by omega)) hn ⟨hL.rows, hL.small⟩) ?_
          rintro r5 ok5 w13 ⟨hE13, m, hm, hAn⟩
          have hzz := hE10.size_le
          refine ⟨hE13, hE13, hE13, ⟨hE10.trans hE13, hE910.trans hE13, i, ?_, by omega, ?_⟩, ?_⟩
          · rw [wrap_of (by omega) (by omega)]
          · rcases ansG_cases hAn with ⟨hPr, rfl, rfl⟩ | ⟨hPr, rfl, rfl⟩
            · exact .inl ⟨rfl, _, hm.low hzz, by rw [← hb, backL_yes hPr]⟩
            · exact .inr ⟨rfl, hm.low hzz, by rw [← hb, backL_no hPr]⟩
          · rw [wrap_of (by omega) (by omega)]
            simp only []
            omega
        · exact cond_f rfl (hbad hE10 hL hb)
      · have hj0 : j = 0 := by omega
        subst hj0
        rcases hst with ⟨rfl, L, hL, hb⟩ | ⟨rfl, hL, hb⟩
        · obtain ⟨hG, hv⟩ := se_some hA (L := L) (by rw [hK]; exact hb.symm)
          refine ⟨hE10, L, hL, ?_⟩
          rw [← hv]
          exact .yes hG
        · exact hbad hE10 hL hb
  · exact cond_not (fun _ => hnil hE fun hA => hT hA.times) (fun ht => by cases ht)

set_option maxHeartbeats 800000 in
theorem sSolveByElimination_ok {w : World} {c d a b e : Sl} {p : Prob} {n : Net} {k : Int} (h : RProb w c d p) (hN : RNet w a b e n) (_hk : I64 k) (hsp : SmallP p) (_hn : Small n) :
    Calls Tryz.prog F.s_SolveByElimination #[.agg #[.int .i64 p.labels, .int .i64 p.degree, c.v, d.v], .agg #[a.v, b.v, e.v], .int .i64 k] w (Ret [.at .sl, .at .bool] fun (r : Sl) (y : Bool) w' => Ext w w' ∧ ∃ m, R w' r m ∧ AnsG (SeG p n k) (seL p n k) [] m y) := by
  refine C_s_SolveByElimination ?_
  unfold V_s_SolveByElimination
  refine NEW_intro fun pp w1 hp1 hs1 hE1 hb1 => NEW_intro fun pn w2 hp2 hs2 hE2 hb2 => ?_
  have hE := hE1.trans hE2
  replace h := h.ext hE
  replace hN := hN.ext hE
  replace hb1 := hb1.ext hE2
  have hni : ∀ {w' : World}, R w' (⟨none, 0, 0⟩ : Sl) ([] : List (List Int)) := fun {w'} => (OutM.nil 0 w').rep
  have hnil : ∀ {w' : World}, Ext w w' → ¬ SeG p n k → Ext w w' ∧ ∃ m, R w' (⟨none, 0, 0⟩ : Sl) m ∧ AnsG (SeG p n k) (seL p n k) [] m false := fun hE' hno => ⟨hE', [], hni, .no hno⟩
  refine LD_iiss hb1 ?_
  refine call (sEliminateTimes_ok h hsp) ?_
  rintro s ok w3 ⟨hE3, hr⟩
  replace hE := hE.ext hE3
  replace h := h.ext hE3
  replace hN := hN.ext hE3
  replace hb2 := hb2.ext hE3
  rcases hr with ⟨rfl, hT, hR⟩ | ⟨rfl, hT⟩
  · refine cond_not (fun hf => by cases hf) (fun _ => LD_box3 hb2 ?_)
    refine call (neGood_ok hN) ?_
    rintro x w4 ⟨hx, hE4⟩
    replace hE := hE.ext hE4
    replace h := h.ext hE4
    replace hN := hN.ext hE4
    replace hb2 := hb2.ext hE4
    replace hR := hR.ext hE4
    refine cond_not (fun hf => hnil hE (se_no fun hA => by rw [hx.2 hA.net] at hf; cases hf)) (fun ht => LD_box3 hb2 ?_)
    have hg := hx.1 ht
    refine call (meStub_ok hN hg) ?_
    rintro y w5 ⟨hy, hE5⟩
    replace hE := hE.ext hE5
    replace h := h.ext hE5
    replace hN := hN.ext hE5
    replace hb2 := hb2.ext hE5
    replace hR := hR.ext hE5
    refine cond_b (fun ht => hnil hE (se_no fun hA => by rw [hy.2 hA.stub] at ht; cases ht)) (fun hfs => ?_)
    have hA : SeAsked p n k := ⟨hT, hg, hy.1 hfs⟩
    unfold V_s_SolveByElimination_k1
    intro w7 hE7 _
    replace hE := hE.ext hE7
    replace h := h.ext hE7
    replace hN := hN.ext hE7
    replace hb2 := hb2.ext hE7
    replace hR := hR.ext hE7
    have hk0 := hT.k0
    have hk5 := hT.k5
    obtain ⟨K, rfl⟩ := Int.eq_ofNat_of_zero_le hk0
    have hK : ((K : Nat) : Int).toNat = K := Int.toNat_natCast K
    rw [hK] at hR
    have hKl : K < (timesP p K).length := by rw [timesP_len]; omega
    have hokT : itOk p K := by have := hT.ok; rwa [hK] at this
    refine slr_ixP hR hKl fun q zq uq hP hc => LD_pcells hc (LD_box3 hb2 ⟨Ext.refl _, ?_⟩)
    have eg := timesP_get hKl
    rw [eg] at hP ⊢
    refine call (sZeroLabeling_ok hP (hokT.small hsp K (Nat.le_refl _)) (hokT.good K (Nat.le_refl _)) hN hg) ?_
    rintro s1 b1 w8 ⟨hE8, hz⟩
    replace hE := hE.ext hE8
    replace h := h.ext hE8
    replace hN := hN.ext hE8
    replace hb2 := hb2.ext hE8
    replace hR := hR.ext hE8
    refine ⟨hE8, hE8, hE8, ?_⟩
    cases hq : zeroL (iterP p K) n with
    | none =>
      rw [hq] at hz
      obtain ⟨rfl, rfl⟩ := hz
      exact cond_not (fun _ => hnil hE (se_none hA (by rw [hK, hq]; exact backL_none p n K))) (fun ht => by cases ht)
    | some L0 =>
      rw [hq] at hz
      obtain ⟨rfl, hL0⟩ := hz
      refine cond_not (fun hf => by cases hf) (fun _ => ?_)
      refine ⟨fun (l : Sl) (i : Int) w' => Ext w w' ∧ Ext w8 w' ∧ ∃ j : Nat, i = (j : Int) - 1 ∧ j ≤ K ∧ ∃ L, R w' l L ∧ backL p n j (some L) = backL p n K (some L0), fun _ i _ => (i + 1).toNat, ⟨hE, Ext.refl _, K, by rw [wrap_of (by omega) (by omega)], Nat.le_refl _, L0, hL0.rep, rfl⟩, ?_⟩
      rintro l i w9 ⟨hE9, hE89, j, rfl, hj, L, hL, hb⟩
      intros
      refine cond_dec (fun hge => ?_) (fun hlt => ?_)
      · obtain ⟨i, rfl⟩ : ∃ i, j = i + 1 := ⟨j - 1, by omega⟩
        intro w10 hE10 _
        replace hE9 := hE9.ext hE10
        replace hE89 := hE89.ext hE10
        replace hL := hL.ext hE10
        have hil : i < (timesP p K).length := by rw [timesP_len]; omega
        have ei : ((i + 1 : Nat) : Int) - 1 = (i : Int) := by omega
        rw [ei]
        refine slr_ixP (hR.ext hE89) hil fun q2 z2 u2 hP2 hc2 => LD_pcells hc2 (LD_box3 (hb2.ext hE89) ⟨Ext.refl _, ?_⟩)
        have eg2 := timesP_get hil
        rw [eg2] at hP2 ⊢
        refine call (sPullRound_ok hP2 (hN.ext hE89) hL) ?_
        rintro r5 ok5 w11 ⟨hE11, m, hm, hAn⟩
        refine ⟨hE11, hE11, hE11, ?_⟩
        rcases ansG_cases hAn with ⟨hPr, rfl, rfl⟩ | ⟨hPr, rfl, rfl⟩
        · refine cond_not (fun hf => by cases hf) (fun _ => ⟨⟨hE9.trans hE11, hE89.trans hE11, i, by rw [wrap_of (by omega) (by omega)], by omega, _, hm, by rw [← hb, backL_yes hPr]⟩, ?_⟩)
          rw [wrap_of (by omega) (by omega)]
          simp only []
          omega
        · exact cond_not (fun _ => hnil (hE9.trans hE11) (se_none hA (by rw [hK, hq, ← hb, backL_no hPr]))) (fun ht => by cases ht)
      · have hj0 : j = 0 := by omega
        subst hj0
        obtain ⟨hG, hv⟩ := se_some hA (L := L) (by rw [hK, hq]; exact hb.symm)
        refine ⟨hE9, L, hL, ?_⟩
        rw [← hv]
        exact .yes hG
  · exact cond_not (fun _ => hnil hE (se_no fun hA => hT hA.times)) (fun ht => by cases ht)

end Go.Proofs.YtndebacmnpghkaaGreat
end

section
/- The walk of the law FnExactSolveByElimination. -/
namespace Go.Proofs.YtndebacmnpghkaaGreat
open Go.GX Go.RowKit
set_option maxRecDepth 100000
set_option maxHeartbeats 800000

theorem fnExactSolveByElimination_ok {w : World} {c0 e0 : Sl} {q0 : Prob} {a1 b1 c1 : Sl} {n1 : Net} {d2 : Int} (h0 : RProb w c0 e0 q0) (h1 : RNet w a1 b1 c1 n1) (h2 : I64 d2) :
    Calls Tryz.prog F.l_FnExactSolveByElimination #[.agg #[.int .i64 q0.labels, .int .i64 q0.degree, c0.v, e0.v], .agg #[a1.v, b1.v, c1.v], .int .i64 d2] w (Ret [.at .bool] fun (x : Bool) w' => x = true ∧ Ext w w') := by
  refine C_l_FnExactSolveByElimination ?_
  unfold V_l_FnExactSolveByElimination
  refine NEW_intro fun p0 u0 hp0 hs0 hA0 hb0 => ?_
  have hE := hA0
  replace h0 := h0.ext hA0
  replace h1 := h1.ext hA0
  refine NEW_intro fun p1 u1 hp1 hs1 hA1 hb1 => ?_
  replace hE := hE.ext hA1
  replace h0 := h0.ext hA1
  replace h1 := h1.ext hA1
  replace hb0 := hb0.ext hA1
  refine LD_iiss hb0 ?_
  refine call (szProblem_ok h0 1048576 (by omega) (by omega)) ?_
  rintro z0 x0 ⟨hz0, hB0⟩
  replace hE := hE.ext hB0
  replace h0 := h0.ext hB0
  replace h1 := h1.ext hB0
  replace hb0 := hb0.ext hB0
  replace hb1 := hb1.ext hB0
  refine cond_dec (fun _ => ⟨rfl, hE⟩) (fun hzl0 => ?_)
  have hS0 := (hz0 (by omega)).1
  have hzz0 := (hz0 (by omega)).2
  refine LD_box3 hb1 ?_
  refine call (szNetwork_at h1 z0 (by omega) (by omega)) ?_
  rintro z1 x1 ⟨hz1, hB1⟩
  replace hE := hE.ext hB1
  replace h0 := h0.ext hB1
  replace h1 := h1.ext hB1
  replace hb0 := hb0.ext hB1
  replace hb1 := hb1.ext hB1
  refine cond_dec (fun _ => ⟨rfl, hE⟩) (fun hzl1 => ?_)
  have hS1 := (hz1 (by omega)).1
  have hzz1 := (hz1 (by omega)).2
  intro wS hGS _
  replace hE := hE.ext hGS
  replace h0 := h0.ext hGS
  replace h1 := h1.ext hGS
  replace hb0 := hb0.ext hGS
  replace hb1 := hb1.ext hGS
  have hReg := Ext.refl wS
  refine LD_iiss hb0 (LD_box3 hb1 ?_)
  refine call (toProblem_ok h0 hS0) ?_
  rintro _ _ zs0 us0 ws0 ⟨rfl, rfl, hEs0, hNs0⟩
  replace hE := hE.ext hEs0
  replace h0 := h0.ext hEs0
  replace h1 := h1.ext hEs0
  replace hb0 := hb0.ext hEs0
  replace hb1 := hb1.ext hEs0
  replace hReg := hReg.ext hEs0
  refine ⟨hReg, ?_⟩
  refine call (toNetwork_ok h1 hS1) ?_
  rintro xs1 ys1 zs1 ws1 ⟨hEs1, hNs1⟩
  replace hE := hE.ext hEs1
  replace h0 := h0.ext hEs1
  replace h1 := h1.ext hEs1
  replace hb0 := hb0.ext hEs1
  replace hb1 := hb1.ext hEs1
  replace hReg := hReg.ext hEs1
  replace hNs0 := hNs0.ext hEs1
  refine ⟨hReg, ?_⟩
  refine call (sSolveByElimination_ok hNs0 hNs1 h2 hS0 hS1) ?_
  rintro r10 r11 wA ⟨hCA, r1L0, hL10, hA1⟩
  replace hE := hE.ext hCA
  replace h0 := h0.ext hCA
  replace h1 := h1.ext hCA
  replace hb0 := hb0.ext hCA
  replace hb1 := hb1.ext hCA
  replace hReg := hReg.ext hCA
  replace hNs0 := hNs0.ext hCA
  replace hNs1 := hNs1.ext hCA
  refine ⟨hReg, ?_⟩
  refine ⟨hReg, ?_⟩
  refine ⟨hReg, ?_⟩
  have hX := Ext.refl wA
  refine LD_iiss (hb0.ext hX) ?_
  have hlo0 := hX.size_le
  refine call (toProblem_own (h0.ext hX) hS0) ?_
  rintro _ _ zi0 ui0 wi0 ⟨rfl, rfl, hEi0, mid0, top0, hOP0⟩
  have hls0 := hEi0.size_le
  replace hX := hX.ext hEi0
  have hM0 := hOP0.mnodes
  have hMe0 := hOP0.medges
  have hlm0 := hOP0.lom
  have hmt0 := hOP0.mhi
  have htw0 := hOP0.top
  have hNi0 := hOP0.prob h0
  have hH0 := Ext.refl wi0
  refine NEW_ST (one4p _ _ _ _) rfl fun yi0 vi0 hqi0 hFi0 hc0 => ?_
  replace hX := hX.ext hFi0
  replace hM0 := hM0.ext hFi0
  replace hMe0 := hMe0.ext hFi0
  replace hNi0 := hNi0.ext hFi0
  replace hH0 := hH0.ext hFi0
  refine LD_box3 (hb1.ext hX) ?_
  have hlp1_0 := hH0.size_le
  have hlo1 := hX.size_le
  refine call (toNetwork_own (h1.ext hX) hS1) ?_
  rintro xi1 yi1 zi1 wi1 ⟨hEi1, hON1⟩
  have hls1 := hEi1.size_le
  replace hX := hX.ext hEi1
  replace hM0 := hM0.ext hEi1
  replace hMe0 := hMe0.ext hEi1
  replace hNi0 := hNi0.ext hEi1
  replace hH0 := hH0.ext hEi1
  replace hc0 := hc0.ext hEi1
  have hM1 := hON1.mnet hS1
  have hNi1 := hON1.net h1
  have hH1 := Ext.refl wi1
  refine NEW_ST (one3 _ _ _) rfl fun qi1 vi1 hqi1 hFi1 hc1 => ?_
  replace hX := hX.ext hFi1
  replace hM0 := hM0.ext hFi1
  replace hMe0 := hMe0.ext hFi1
  replace hNi0 := hNi0.ext hFi1
  replace hH0 := hH0.ext hFi1
  replace hc0 := hc0.ext hFi1
  replace hM1 := hM1.ext hFi1
  replace hNi1 := hNi1.ext hFi1
  replace hH1 := hH1.ext hFi1
  refine LD_iiss hc0 ?_
  refine LD_box3 hc1 ?_
  have hhi0 := hH0.size_le
  have hhi1 := hH1.size_le
  have hXD := hX.size_le
  refine call (SolveByElimination_ok hNi0 hNi1 h2 hS0 hS1) ?_
  rintro r20 r21 wE ⟨hCE, r2L0, hG20, hA2⟩
  replace hX := hX.ext hCE
  replace hM0 := hM0.ext hCE
  replace hMe0 := hMe0.ext hCE
  replace hNi0 := hNi0.ext hCE
  replace hH0 := hH0.ext hCE
  replace hc0 := hc0.ext hCE
  replace hM1 := hM1.ext hCE
  replace hNi1 := hNi1.ext hCE
  replace hH1 := hH1.ext hCE
  replace hc1 := hc1.ext hCE
  obtain ⟨rfl, rfl⟩ := hA1.eq hA2
  refine call (eqIntSS_ok hG20.rep (hL10.ext hX)) ?_
  rintro _ we1 ⟨rfl, hK⟩
  replace hX := hX.ext hK
  replace hM0 := hM0.ext hK
  replace hMe0 := hMe0.ext hK
  replace hNi0 := hNi0.ext hK
  replace hH0 := hH0.ext hK
  replace hc0 := hc0.ext hK
  replace hM1 := hM1.ext hK
  replace hNi1 := hNi1.ext hK
  replace hH1 := hH1.ext hK
  replace hc1 := hc1.ext hK
  replace hG20 := hG20.ext hK
  refine cond_f (by simp) ?_
  refine cond_f (by simp) ?_
  unfold V_l_FnExactSolveByElimination_k3
  intro m0 hG0 _
  replace hX := hX.ext hG0
  replace hM0 := hM0.ext hG0
  replace hMe0 := hMe0.ext hG0
  replace hNi0 := hNi0.ext hG0
  replace hH0 := hH0.ext hG0
  replace hc0 := hc0.ext hG0
  replace hM1 := hM1.ext hG0
  replace hNi1 := hNi1.ext hG0
  replace hH1 := hH1.ext hG0
  replace hc1 := hc1.ext hG0
  replace hG20 := hG20.ext hG0
  refine LD_iiss hc0 (LD_iiss (hb0.ext hX) ?_)
  refine ⟨Ext.refl _, call (toProblem_ok (h0.ext hX) hS0) ?_⟩
  rintro _ _ ze0 ue0 we0' ⟨rfl, rfl, hHe0, hNe0⟩
  replace hX := hX.ext hHe0
  replace hM0 := hM0.ext hHe0
  replace hMe0 := hMe0.ext hHe0
  replace hNi0 := hNi0.ext hHe0
  replace hH0 := hH0.ext hHe0
  replace hc0 := hc0.ext hHe0
  replace hM1 := hM1.ext hHe0
  replace hNi1 := hNi1.ext hHe0
  replace hH1 := hH1.ext hHe0
  replace hc1 := hc1.ext hHe0
  replace hG20 := hG20.ext hHe0
  refine ⟨hHe0, call (eqProblem_ok hNi0 hNe0) ?_⟩
  rintro _ wf0 ⟨rfl, hK0⟩
  replace hX := hX.ext hK0
  replace hM0 := hM0.ext hK0
  replace hMe0 := hMe0.ext hK0
  replace hNi0 := hNi0.ext hK0
  replace hH0 := hH0.ext hK0
  replace hc0 := hc0.ext hK0
  replace hM1 := hM1.ext hK0
  replace hNi1 := hNi1.ext hK0
  replace hH1 := hH1.ext hK0
  replace hc1 := hc1.ext hK0
  replace hG20 := hG20.ext hK0
  refine ⟨hHe0.trans hK0, cond_f (by simp) ?_⟩
  intro m1 hG1 _
  replace hX := hX.ext hG1
  replace hM0 := hM0.ext hG1
  replace hMe0 := hMe0.ext hG1
  replace hNi0 := hNi0.ext hG1
  replace hH0 := hH0.ext hG1
  replace hc0 := hc0.ext hG1
  replace hM1 := hM1.ext hG1
  replace hNi1 := hNi1.ext hG1
  replace hH1 := hH1.ext hG1
  replace hc1 := hc1.ext hG1
  replace hG20 := hG20.ext hG1
  refine LD_box3 hc1 (LD_box3 (hb1.ext hX) ?_)
  refine ⟨Ext.refl _, call (toNetwork_ok (h1.ext hX) hS1) ?_⟩
  rintro xe1 ye1 ze1 we1' ⟨hHe1, hNe1⟩
  replace hX := hX.ext hHe1
  replace hM0 := hM0.ext hHe1
  replace hMe0 := hMe0.ext hHe1
  replace hNi0 := hNi0.ext hHe1
  replace hH0 := hH0.ext hHe1
  replace hc0 := hc0.ext hHe1
  replace hM1 := hM1.ext hHe1
  replace hNi1 := hNi1.ext hHe1
  replace hH1 := hH1.ext hHe1
  replace hc1 := hc1.ext hHe1
  replace hG20 := hG20.ext hHe1
  refine ⟨hHe1, call (eqNetwork_ok hNi1 hNe1) ?_⟩
  rintro _ wf1 ⟨rfl, hK1⟩
  replace hX := hX.ext hK1
  replace hM0 := hM0.ext hK1
  replace hMe0 := hMe0.ext hK1
  replace hNi0 := hNi0.ext hK1
  replace hH0 := hH0.ext hK1
  replace hc0 := hc0.ext hK1
  replace hM1 := hM1.ext hK1
  replace hNi1 := hNi1.ext hK1
  replace hH1 := hH1.ext hK1
  replace hc1 := hc1.ext hK1
  replace hG20 := hG20.ext hK1
  refine ⟨hHe1.trans hK1, cond_f (by simp) ?_⟩
  refine LD_iiss hc0 ?_
  refine call (markProblem_ok hM0 hMe0 hlm0 hmt0 (by have := hH0.size_le; omega) _ (by omega) (by omega)) ?_
  rintro k0 wm0 ⟨hk0, hkk0, hSh, hCh⟩
  have hzk0 := hCh.size
  replace hX := hCh.extR hX (by omega)
  replace hG20 := hG20.chgR hCh (by omega)
  replace hM1 := hM1.chg hSh hCh (by omega)
  replace hc1 := hc1.chg hCh (by omega)
  refine LD_box3 hc1 ?_
  refine call (markNetwork_at _ (by omega) (by omega) hM1 (by have := hH1.size_le; omega)) ?_
  rintro k1 wm1 ⟨hk1, hkk1, hSh, hCh⟩
  have hzk1 := hCh.size
  replace hX := hCh.extR hX (by omega)
  replace hG20 := hG20.chgR hCh (by omega)
  refine cond_df (by omega) ?_
  refine call (eqIntSS_ok hG20.rep (hL10.ext hX)) ?_
  rintro _ we2 ⟨rfl, hK⟩
  replace hX := hX.ext hK
  replace hG20 := hG20.ext hK
  refine cond_f (by simp) ?_
  refine cond_f (by simp) ?_
  unfold V_l_FnExactSolveByElimination_k7
  have hl0 := hG20.rows
  have hll0 := hG20.small
  have hpl0 := pre_le hll0 _ (Nat.le_refl _)
  refine call (markIntSS_out hG20 1 (by omega) (by omega)) ?_
  rintro mk0 wg0 ⟨hmk0, hMk0, hSt⟩
  replace hX := hSt.extB hX (by omega)
  refine call (heldIntSS_ok 1 hMk0 (by omega) (by omega) hl0 hll0) ?_
  rintro qh _ ⟨hqh, rfl⟩
  obtain rfl : mk0 = qh := (hqh.trans hmk0.symm).symm
  refine cond_df (by omega) ?_
  refine cond_f (by simp) ?_
  intro wT hGT _
  replace hX := hX.ext hGT
  replace hMk0 := hMk0.ext hGT
  have hReg := Ext.refl wT
  refine LD_iiss (hb0.ext hX) (LD_box3 (hb1.ext hX) ?_)
  refine call (toProblem_ok (h0.ext hX) hS0) ?_
  rintro _ _ zj0 uj0 wj0 ⟨rfl, rfl, hEj0, hNj0⟩
  replace hX := hX.ext hEj0
  replace hMk0 := hMk0.ext hEj0
  replace hReg := hReg.ext hEj0
  refine ⟨hReg, ?_⟩
  refine call (toNetwork_ok (h1.ext hX) hS1) ?_
  rintro xj1 yj1 zj1 wj1 ⟨hEj1, hNj1⟩
  replace hX := hX.ext hEj1
  replace hMk0 := hMk0.ext hEj1
  replace hReg := hReg.ext hEj1
  replace hNj0 := hNj0.ext hEj1
  refine ⟨hReg, ?_⟩
  refine call (SolveByElimination_ok hNj0 hNj1 h2 hS0 hS1) ?_
  rintro r30 r31 wH ⟨hCH, r3L0, hG30, hA3⟩
  replace hX := hX.ext hCH
  replace hMk0 := hMk0.ext hCH
  replace hReg := hReg.ext hCH
  replace hNj0 := hNj0.ext hCH
  replace hNj1 := hNj1.ext hCH
  refine ⟨hReg, ?_⟩
  refine ⟨hReg, ?_⟩
  refine ⟨hReg, ?_⟩
  obtain ⟨rfl, rfl⟩ := hA1.eq hA3
  refine call (eqIntSS_ok hG30.rep (hL10.ext hX)) ?_
  rintro _ we3 ⟨rfl, hK⟩
  replace hX := hX.ext hK
  replace hMk0 := hMk0.ext hK
  replace hNj0 := hNj0.ext hK
  replace hNj1 := hNj1.ext hK
  replace hG30 := hG30.ext hK
  refine cond_f (by simp) ?_
  refine cond_f (by simp) ?_
  refine call (heldIntSS_ok 1 hMk0 (by omega) (by omega) hl0 hll0) ?_
  rintro qh _ ⟨hqh, rfl⟩
  obtain rfl : mk0 = qh := (hqh.trans hmk0.symm).symm
  refine cond_df (by omega) ?_
  refine cond_f (by simp) ?_
  exact ⟨rfl, hE.trans hX⟩

end Go.Proofs.YtndebacmnpghkaaGreat
end

section
/- Facts of this seat's program that every claim's last step asks for, each computed once (together they need more memory than a text may use). -/
namespace Go.Proofs.YtndebacmnpghkaaGreat


theorem door_enters : Tryz.pinned.checked.prog.mayEnter = true := by kernel_rfl

theorem door_lifts : Tryz.pinned.checked.prog.liftsFinal = false := by kernel_rfl

theorem door_heard : Tryz.pinned.checked.prog.stopsHeard = true := by kernel_rfl

theorem door_laid : laidOutB Tryz.pinned.checked.prog = true := by kernel_rfl

theorem door_maps : mapsRowed Tryz.pinned.checked.prog = true := by kernel_rfl

end Go.Proofs.YtndebacmnpghkaaGreat
end
