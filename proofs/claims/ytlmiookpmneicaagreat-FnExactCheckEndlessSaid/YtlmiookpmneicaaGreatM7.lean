/- Own texts, merged: PullN0, PullN, Endless, CheckEndlessWalk, Door, PullNS, PullNodeStepWalk, PullR, PullRoundWalk. -/
import Derived.Test.YtlmiookpmneicaaGreatM6
import Derived.Test.YtlmiookpmneicaaGreatRows
import Derived.KernelRfl
import Derived.JoinedOf
set_option linter.unusedVariables false
section
/- Labels pulled through the node step: plain. -/
namespace Go.Proofs.YtlmiookpmneicaaGreat
open Go.GX Go.RowKit
set_option maxRecDepth 100000

def set2 (M : List (List Int)) (v i : Nat) (c : Int) : List (List Int) := M.set v ((M.getD v []).set i c)

theorem set2_get {M : List (List Int)} {v i : Nat} (hv : v < M.length) (c : Int) : set2 M v i c = M.set v (M[v].set i c) := by unfold set2; rw [rowD hv]

theorem set2_rows {E : Ends} {M : List (List Int)} (h : SameRows E M) (v i : Nat) (c : Int) : SameRows E (set2 M v i c) := by
  refine ⟨by simp [set2, h.1], fun u hu => ?_⟩
  have hu' : u < M.length := by simpa [set2] using hu
  rw [← h.2 u hu']
  unfold set2
  simp only [List.getD_eq_getElem?_getD]
  by_cases huv : v = u
  · subst huv
    rw [List.getElem?_set_self hu']
    simp
  · rw [List.getElem?_set_ne huv]

theorem getD_set2 {α : Type} (l : List α) (v u : Nat) (r d : α) : (l.set v r).getD u d = if v = u ∧ v < l.length then r else l.getD u d := by
  simp only [List.getD_eq_getElem?_getD]
  by_cases h : v = u
  · subst h
    by_cases h2 : v < l.length
    · rw [List.getElem?_set_self h2, if_pos ⟨rfl, h2⟩]; rfl
    · rw [if_neg fun hh => h2 hh.2, List.getElem?_eq_none (by simp; omega), List.getElem?_eq_none (by omega)]
  · rw [List.getElem?_set_ne h, if_neg fun hh => h hh.1]

theorem at2_set2 {E : Ends} {M : List (List Int)} (hM : SameRows E M) {u j : Nat} (hu : u < E.length) (hj : j < (E.getD u []).length) (v i : Nat) (c : Int) : at2 (set2 M v i c) u j = if v = u ∧ i = j then c else at2 M u j := by
  have hu' : u < M.length := by rw [hM.1]; exact hu
  have hj' : j < (M.getD u []).length := by rw [hM.2 u hu']; exact hj
  unfold at2 set2
  rw [getD_set2]
  by_cases hv : v = u
  · subst hv
    rw [if_pos ⟨rfl, hu'⟩, getD_set2]
    by_cases hi : i = j
    · subst hi; rw [if_pos ⟨rfl, hj'⟩, if_pos ⟨rfl, rfl⟩]
    · rw [if_neg fun hh => hi hh.1, if_neg fun hh => hi hh.2]
  · rw [if_neg fun hh => hv hh.1, if_neg fun hh => hv hh.1]

def endsP (L : List (List Int)) (q : Edge) : List Int := [at2 L q.1.toNat q.2.1.toNat, at2 L q.2.2.1.toNat q.2.2.2.toNat]
def pairN (p : Prob) (S : List Int) (L : List (List Int)) (q : Edge) : List Int := (firstC (nodeB2 p) (listsAt S (endsP L q)) []).getD []
def stepN (p : Prob) (S : List Int) (L M : List (List Int)) (q : Edge) : List (List Int) := set2 (set2 M q.1.toNat q.2.1.toNat ((pairN p S L q).getD 0 0)) q.2.2.1.toNat q.2.2.2.toNat ((pairN p S L q).getD 1 0)
def pullN (p : Prob) (S : List Int) (L : List (List Int)) (l : List Edge) (M : List (List Int)) : List (List Int) := l.foldl (stepN p S L) M

theorem pullN_snoc (p : Prob) (S : List Int) (L : List (List Int)) (l : List Edge) (q : Edge) (M : List (List Int)) : pullN p S L (l ++ [q]) M = stepN p S L (pullN p S L l M) q := by simp [pullN]

theorem stepN_rows {p : Prob} {S : List Int} {L : List (List Int)} {E : Ends} {M : List (List Int)} (h : SameRows E M) (q : Edge) : SameRows E (stepN p S L M q) := set2_rows (set2_rows h _ _ _) _ _ _

theorem pullN_rows {p : Prob} {S : List Int} {L : List (List Int)} {E : Ends} : ∀ (l : List Edge) {M : List (List Int)}, SameRows E M → SameRows E (pullN p S L l M)
  | [], _, h => h
  | q :: l, _, h => pullN_rows l (stepN_rows h q)

def Hits (q : Edge) (u j : Nat) : Prop := (q.1.toNat = u ∧ q.2.1.toNat = j) ∨ (q.2.2.1.toNat = u ∧ q.2.2.2.toNat = j)

theorem pullN_agree {p : Prob} {S : List Int} {L : List (List Int)} {E : Ends} {u j : Nat} (hu : u < E.length) (hj : j < (E.getD u []).length) : ∀ (l : List Edge) {M M' : List (List Int)}, SameRows E M → SameRows E M' → (at2 M u j = at2 M' u j ∨ ∃ q ∈ l, Hits q u j) → at2 (pullN p S L l M) u j = at2 (pullN p S L l M') u j
  | [], M, M', _, _, h => by
    rcases h with h | ⟨q, hq, _⟩
    · exact h
    · cases hq
  | q :: l, M, M', h, h', ha => by
    refine pullN_agree (M := stepN p S L M q) (M' := stepN p S L M' q) hu hj l (stepN_rows h q) (stepN_rows h' q) ?_
    unfold stepN
    rw [at2_set2 (set2_rows h _ _ _) hu hj, at2_set2 (set2_rows h' _ _ _) hu hj, at2_set2 h hu hj, at2_set2 h' hu hj]
    by_cases h1 : q.2.2.1.toNat = u ∧ q.2.2.2.toNat = j
    · rw [if_pos h1, if_pos h1]; exact .inl rfl
    · rw [if_neg h1, if_neg h1]
      by_cases h2 : q.1.toNat = u ∧ q.2.1.toNat = j
      · rw [if_pos h2, if_pos h2]; exact .inl rfl
      · rw [if_neg h2, if_neg h2]
        rcases ha with ha | ⟨q', hq', hh⟩
        · exact .inl ha
        · rcases List.mem_cons.1 hq' with rfl | hq'
          · rcases hh with hh | hh
            · exact absurd hh h2
            · exact absurd hh h1
          · exact .inr ⟨q', hq', hh⟩

theorem rows_ext {E : Ends} {M M' : List (List Int)} (h : SameRows E M) (h' : SameRows E M') (hc : ∀ u j, u < E.length → j < (E.getD u []).length → at2 M u j = at2 M' u j) : M = M' := by
  refine List.ext_getElem (by rw [h.1, h'.1]) fun u h1 h2 => ?_
  have hl := h.2 u h1
  have hl' := h'.2 u h2
  rw [rowD h1] at hl
  rw [rowD h2] at hl'
  refine List.ext_getElem (by omega) fun j h3 h4 => ?_
  have := hc u j (by rw [← h.1]; exact h1) (by omega)
  rwa [at2_get h1 h3, at2_get h2 h4] at this

theorem covered {n : Net} (hg : Good n) {u j : Nat} (hu : u < n.ends.length) (hj : j < (n.ends.getD u []).length) : ∃ q ∈ edgesOf n.ends, Hits q u j := by
  rw [rowD hu] at hj
  obtain ⟨x, y, hxy, hx, hb⟩ := hg.far hu hj
  by_cases hf : isFirst u j ((x : Int), (y : Int)) = true
  · refine ⟨((u : Int), (j : Int), (x : Int), (y : Int)), mem_edgesOf.2 ⟨u, j, ((x : Int), (y : Int)), by rw [port_get hu hj, hxy], hf, rfl⟩, .inl ⟨by simp, by simp⟩⟩
  · refine ⟨((x : Int), (y : Int), (u : Int), (j : Int)), mem_edgesOf.2 ⟨x, y, ((u : Int), (j : Int)), hb, ?_, rfl⟩, .inr ⟨by simp, by simp⟩⟩
    unfold isFirst at hf ⊢
    simp only [Bool.or_eq_true, Bool.and_eq_true, decide_eq_true_eq, beq_iff_eq, not_or, not_and] at hf ⊢
    omega

theorem pullN_all {p : Prob} {S : List Int} {L : List (List Int)} {n : Net} (hg : Good n) {M M' : List (List Int)} (h : SameRows n.ends M) (h' : SameRows n.ends M') : pullN p S L (edgesOf n.ends) M = pullN p S L (edgesOf n.ends) M' :=
  rows_ext (pullN_rows _ h) (pullN_rows _ h') fun _ _ hu hj => pullN_agree hu hj _ h h' (.inr (covered hg hu hj))

def I64s (M : List (List Int)) : Prop := ∀ r ∈ M, ∀ x ∈ r, I64 x

theorem set2_I64 {M : List (List Int)} (h : I64s M) {v i : Nat} {c : Int} (hc : I64 c) : I64s (set2 M v i c) := fun r hr x hx => by
  unfold set2 at hr
  rcases List.mem_or_eq_of_mem_set hr with h1 | rfl
  · exact h r h1 x hx
  · rcases List.mem_or_eq_of_mem_set hx with h2 | rfl
    · by_cases hv : v < M.length
      · rw [rowD hv] at h2; exact h _ (List.getElem_mem hv) x h2
      · rw [List.getD_eq_getElem?_getD, List.getElem?_eq_none (by omega)] at h2; cases h2
    · exact hc

theorem pair_labs (p : Prob) (S : List Int) (L : List (List Int)) (q : Edge) : ∀ x ∈ pairN p S L q, 0 ≤ x ∧ x < 8 := fun x hx => by
  unfold pairN at hx
  cases hG : firstC (nodeB2 p) (listsAt S (endsP L q)) [] with
  | none => rw [hG] at hx; cases hx
  | some c =>
    rw [hG, Option.getD_some] at hx
    obtain ⟨_, e, he, hce⟩ := firstC_spec hG
    rw [hce, List.nil_append] at hx
    obtain ⟨l, hl, hxl⟩ := two2_mem (mem_prodL.1 he) x hx
    obtain ⟨y, _, rfl⟩ := List.mem_map.1 hl
    obtain ⟨a, rfl, ha, _⟩ := mem_labsOf.1 hxl
    omega

theorem pair_at (p : Prob) (S : List Int) (L : List (List Int)) (q : Edge) (k : Nat) : 0 ≤ (pairN p S L q).getD k 0 ∧ (pairN p S L q).getD k 0 < 8 := by
  by_cases hk : k < (pairN p S L q).length
  · have : (pairN p S L q).getD k 0 = (pairN p S L q)[k] := by rw [List.getD_eq_getElem?_getD, List.getElem?_eq_getElem hk]; rfl
    rw [this]
    exact pair_labs p S L q _ (List.getElem_mem hk)
  · rw [List.getD_eq_getElem?_getD, List.getElem?_eq_none (by omega)]
    simp

theorem stepN_I64 {p : Prob} {S : List Int} {L M : List (List Int)} (h : I64s M) (q : Edge) : I64s (stepN p S L M q) := by
  have h0 := pair_at p S L q 0
  have h1 := pair_at p S L q 1
  exact set2_I64 (set2_I64 h (by unfold I64; omega)) (by unfold I64; omega)

theorem pullN_I64 {p : Prob} {S : List Int} {L : List (List Int)} : ∀ (l : List Edge) {M : List (List Int)}, I64s M → I64s (pullN p S L l M)
  | [], _, h => h
  | q :: l, _, h => pullN_I64 l (stepN_I64 h q)

def SomeN (p : Prob) (S : List Int) (L : List (List Int)) (E : Ends) : Prop := ∀ q ∈ edgesOf E, (firstC (nodeB2 p) (listsAt S (endsP L q)) []).isSome = true

theorem pair_some {p : Prob} {S : List Int} {L : List (List Int)} {E : Ends} (h : SomeN p S L E) {q : Edge} (hq : q ∈ edgesOf E) : firstC (nodeB2 p) (listsAt S (endsP L q)) [] = some (pairN p S L q) := by
  have := h q hq
  unfold pairN
  cases hG : firstC (nodeB2 p) (listsAt S (endsP L q)) [] with
  | none => rw [hG] at this; cases this
  | some c => rfl

theorem pair_len {p : Prob} {S : List Int} {L : List (List Int)} {E : Ends} (h : SomeN p S L E) {q : Edge} (hq : q ∈ edgesOf E) : (pairN p S L q).length = 2 := by
  obtain ⟨_, e, he, hce⟩ := firstC_spec (pair_some h hq)
  rw [hce, List.nil_append, prodL_len he, listsAt_len]
  rfl

theorem nodeB2_perm' {p : Prob} {c d : List Int} (h : c.Perm d) : nodeB2 p c = nodeB2 p d := by
  unfold nodeB2
  rw [sortI_congr h]

theorem node_sets {p : Prob} (hg : PGood p) : SetsOk (nodeSets p) := ⟨fun x hx => by
  obtain ⟨l, hl, hxl⟩ := (mem_setsOf (node_byte hg)).1 hx
  have h1 := (nodeFull_conf p l hl).vals x hxl
  have h3 := two_lab hg
  exact ⟨x.toNat, by omega, by omega, by omega⟩⟩

theorem node_some {p : Prob} {n : Net} {L : List (List Int)} (hc : Clean (nodeP p) n.ends L) : SomeN p (nodeSets p) L n.ends := fun q hq => by
  obtain ⟨v, i, e, hp, hf, rfl⟩ := mem_edgesOf.1 hq
  obtain ⟨hv, hi, hve⟩ := port_some hp
  have he : endOf n.ends v i = e := by unfold endOf; rw [endD hv hi]; exact hve
  have hN := (hc v hv).2 i
  have hE : EdgeIs (nodeP p) (at2 L v i) (at2 L e.1.toNat e.2.toNat) := Classical.byContradiction fun hn => hN ⟨by rw [rowD hv]; exact hi, by rw [he]; exact hf, by rw [he]; exact hn⟩
  have h1 : sortI [at2 L v i, at2 L e.1.toNat e.2.toNat] ∈ (msets (nodeSets p).length 2).filter fun c => (prodL (listsAt (nodeSets p) c)).any (nodeB2 p) := hE
  exact choice_perm nodeB2_perm' (List.mem_filter.1 h1).2

/-- An end that is its own. -/
def Stub (q : Edge) : Bool := q.1 == q.2.2.1 && q.2.1 == q.2.2.2
def Stubless (E : Ends) : Prop := ∀ v i, port E v i ≠ some ((v : Int), (i : Int))

theorem stubless_iff {n : Net} (hg : Good n) : (edgesOf n.ends).any Stub = false ↔ Stubless n.ends := by
  rw [List.any_eq_false]
  constructor
  · intro h v i hp
    have hm : ((v : Int), (i : Int), (v : Int), (i : Int)) ∈ edgesOf n.ends := mem_edgesOf.2 ⟨v, i, ((v : Int), (i : Int)), hp, by unfold isFirst; simp, rfl⟩
    exact h _ hm (by simp [Stub])
  · intro h q hq hs
    obtain ⟨v, i, x, y, rfl, hp, _⟩ := edge_at hg hq
    unfold Stub at hs
    simp only [Bool.and_eq_true, beq_iff_eq] at hs
    rw [← hs.1, ← hs.2] at hp
    exact h v i hp

structure PnAsked (p : Prob) (n : Net) (L : List (List Int)) : Prop where
  good : ndGood p
  net : Good n
  stub : Stubless n.ends
  lab : LabOk (nodeP p) n.ends L
  clean : Clean (nodeP p) n.ends L

theorem node_made {p : Prob} (h : ndGood p) : PGood (nodeP p) := (NdAsked.mk h.1 h.2.1 h.2.2).made

theorem node_small {p : Prob} (h : ndGood p) : SmallP (nodeP p) := by
  have hd := h.1.deg
  have h1 := h.2.2.2
  exact ⟨small_filter (k := p.degree.toNat) h1 (by omega) _, small_filter (k := 2) h1 (by omega) _⟩

def zeroM (L : List (List Int)) : List (List Int) := L.map fun r => List.replicate r.length 0

theorem zeroM_rows {E : Ends} {L : List (List Int)} (h : SameRows E L) : SameRows E (zeroM L) := by
  refine ⟨by simp [zeroM, h.1], fun u hu => ?_⟩
  have hu' : u < L.length := by simpa [zeroM] using hu
  rw [← h.2 u hu', rowD hu, rowD hu']
  simp [zeroM]

end Go.Proofs.YtlmiookpmneicaaGreat
end

section
/- Labels pulled through the node step, both sides. -/
namespace Go.Proofs.YtlmiookpmneicaaGreat
open Go.GX Go.RowKit
set_option maxRecDepth 100000

theorem store1 {w : World} {base : Nat} {s : Sl} {M : List (List Int)} {ss : List Sl} (h : RowsD w base T.t_int T.t_sl_int s M ss) {v i : Nat} (hv : v < M.length) (hi : i < M[v].length) {r1 : Sl} (h1 : ss[v]? = some r1) {c : Int} {p : Addr} (hp : Plc r1 i 1 p) {K : World → Prop}
    (hk : ∀ w1, Step w w1 r1.v.ownBlock → RowsD w1 base T.t_int T.t_sl_int s (M.set v (M[v].set i c)) ss → K w1) : GX.ST p 0 [.int .i64 c] w K := by
  have hO1 := h.row v r1 M[v] h1 (by simp [hv])
  exact ST_own hO1 hi hp c rfl fun w1 hO1' hs1 => hk w1 hs1 (h.chg (by decide) h1 hO1' hs1)

theorem edge_cells {n : Net} (hg : Good n) {M L : List (List Int)} (hM : SameRows n.ends M) (hL : SameRows n.ends L) {q : Edge} (hq : q ∈ edgesOf n.ends) :
    ∃ v i x y : Nat, q = ((v : Int), (i : Int), (x : Int), (y : Int)) ∧ (∃ (hv : v < M.length) (hx : x < M.length), i < M[v].length ∧ y < M[x].length) ∧ ∃ (hv : v < L.length) (hx : x < L.length), i < L[v].length ∧ y < L[x].length := by
  obtain ⟨v, i, x, y, rfl, hp, hb, hv, hx, _, _⟩ := edge_at hg hq
  obtain ⟨_, hi, _⟩ := port_some hp
  obtain ⟨_, hy, _⟩ := port_some hb
  have key : ∀ {M : List (List Int)}, SameRows n.ends M → ∃ (hv : v < M.length) (hx : x < M.length), i < M[v].length ∧ y < M[x].length := fun {M} hM => by
    have hvM : v < M.length := by rw [hM.1]; exact hv
    have hxM : x < M.length := by rw [hM.1]; exact hx
    have h1 := hM.2 v hvM
    have h2 := hM.2 x hxM
    rw [rowD hvM, rowD hv] at h1
    rw [rowD hxM, rowD hx] at h2
    exact ⟨hvM, hxM, by omega, by omega⟩
  exact ⟨v, i, x, y, rfl, key hM, key hL⟩

theorem ixID {D : Nat → Prop} {w : World} {s : Sl} {l : List Int} (h : SlR D w s l) {i : Nat} (hi : i < l.length) {K : Addr → Prop} (hk : ∀ p, D p.block → w.cell? p = some (.int .i64 l[i]) → K p) : IX s (i : Int) 1 K := by
  obtain ⟨a', cs, ha', hD', hrep, hc'⟩ := h.2.2 i _ (List.getElem?_eq_getElem hi)
  obtain ⟨rfl, _⟩ := hrep
  refine ⟨a', ha', by omega, by rw [h.len]; exact_mod_cast hi, hk _ ?_ ?_⟩
  · rw [add_block]; exact hD'
  · exact hc' 0 _ rfl

theorem get_of {l : List Int} {k : Nat} (hk : k < l.length) : l.getD k 0 = l[k] := by rw [List.getD_eq_getElem?_getD, List.getElem?_eq_getElem hk]; rfl

theorem set2_two {M : List (List Int)} {v i x y : Nat} (hv : v < M.length) (hx : x < M.length) (hy : y < M[x].length) (c d : Int) :
    ∃ (hxl : x < (M.set v (M[v].set i c)).length), y < ((M.set v (M[v].set i c))[x]'hxl).length ∧ set2 (set2 M v i c) x y d = (M.set v (M[v].set i c)).set x (((M.set v (M[v].set i c))[x]'hxl).set y d) := by
  have hxl : x < (M.set v (M[v].set i c)).length := by simpa using hx
  refine ⟨hxl, ?_, ?_⟩
  · rw [List.getElem_set]
    split
    · rename_i hvx; subst hvx; simpa using hy
    · exact hy
  · rw [set2_get hv, set2_get hxl]

theorem copyLists_ok {w : World} {s : Sl} {L : List (List Int)} (h : R w s L) (hl : L.length ≤ 1000) (hr : ∀ r ∈ L, r.length ≤ 1000) :
    Calls Tryz.prog F.i_copyLists #[s.v] w (Ret [.at .sl] fun (r : Sl) w' => Ext w w' ∧ ∃ ss, RowsD w' w.heap.size T.t_int T.t_sl_int r L ss) := by
  refine C_i_copyLists ?_
  unfold V_i_copyLists
  rw [h.len]
  refine RUN_make (α := Sl) slt_rows (d := ⟨none, 0, 0⟩) rfl (by omega) (by unfold maxLen; omega) fun t w1 hE1 hO1 => ?_
  have hz1 := hE1.size_le
  refine ⟨IN L.length fun i w' => Ext w w' ∧ ∃ ss, RowsD w' w.heap.size T.t_int T.t_sl_int t (L.take i ++ List.replicate (L.length - i) []) ss, MN L.length, IN_zero ⟨hE1, List.replicate L.length ⟨none, 0, 0⟩, ?_⟩, ?_⟩
  · refine ⟨by simpa using hO1, by simp, fun i r l hr hl => ?_, fun i j r q hr hq hij b hb => ?_⟩
    · rw [List.getElem?_replicate] at hr
      split at hr
      · cases hr
        simp only [List.take_zero, List.nil_append, List.getElem?_replicate, Nat.sub_zero] at hl
        split at hl <;> (cases hl; exact OwnL.nil _ _ _)
      · cases hr
    · rw [List.getElem?_replicate] at hr
      split at hr
      · cases hr; cases hb
      · cases hr
  rintro _ w2 ⟨i, rfl, hi, hE2, ss, hR2⟩
  intros
  refine cond_dec (fun hlt => ?_) (fun hge => ?_)
  · have hi' : i < L.length := by omega
    refine (h.ext hE2).ixL hi' fun q row hrow hc => LD_sl hc ?_
    refine call (clone_ok hrow.any (by have := hr _ (List.getElem_mem hi'); omega)) ?_
    rintro r w3 ⟨hE3, hO3⟩
    have hR3 := hR2.ext hE3
    have hil : i < (L.take i ++ List.replicate (L.length - i) ([] : List Int)).length := by simp; omega
    obtain ⟨r0, hr0, hO0⟩ := hR3.at hil
    have hz2 := hE2.size_le
    refine hR3.ixP hil fun p hp => ?_
    refine hR2.put (by decide) hil hr0 (hO3.low hz2) (Step.of_ext hE3 _) (.inr fun k hk => (hO3.blk k hk).1) hp fun w4 hR4 hs4 => ?_
    refine IN_next (by omega) hi' ⟨hs4.ext0 (hE2.trans hE3) fun k hk => (hR3.own.blk k hk).1, ss.set i r, ?_⟩
    have e : (L.take i ++ List.replicate (L.length - i) ([] : List Int)).set i L[i] = L.take (i + 1) ++ List.replicate (L.length - (i + 1)) [] := by
      have h1 : L.length - i = (L.length - (i + 1)) + 1 := by omega
      have h2 : (L.take i).length = i := by rw [List.length_take]; omega
      rw [h1, List.replicate_succ, List.take_succ_eq_append_getElem hi', List.set_append_right _ _ (by omega), h2, Nat.sub_self, List.set_cons_zero, List.append_assoc, List.singleton_append]
    rw [← e]
    exact hR4
  · have : i = L.length := by omega
    subst this
    rw [List.take_length, Nat.sub_self, List.replicate_zero, List.append_nil] at hR2
    exact ⟨hE2, ss, hR2⟩

theorem stub_ok (q : Edge) (w : World) : Calls Tryz.prog F.i_edge_stub (argsQ q) w (Ret [.at .bool] fun (b : Bool) w' => b = Stub q ∧ Ext w w') := by
  refine C_i_edge_stub ?_
  unfold V_i_edge_stub
  refine NEW_intro fun p w1 hp hs hE hb => LD_bi0 hb (LD_bi2 hb ?_)
  refine cond_eq (fun h1 => LD_bi1 hb (LD_bi3 hb ⟨by simp [Stub, h1], hE⟩)) (fun h1 => ⟨by simp [Stub, h1], hE⟩)

theorem two_labs {p : Prob} {n : Net} {L : List (List Int)} (h : LabOk (nodeP p) n.ends L) {q : Edge} {v i x y : Nat} (hq : q = ((v : Int), (i : Int), (x : Int), (y : Int))) (hv : v < L.length) (hi : i < L[v].length) (hx : x < L.length) (hy : y < L[x].length) :
    endsP L q = [L[v][i], L[x][y]] ∧ (0 ≤ L[v][i] ∧ L[v][i] < (nodeSets p).length) ∧ (0 ≤ L[x][y] ∧ L[x][y] < (nodeSets p).length) := by
  subst hq
  have h1 := h.labs _ (List.getElem_mem hv) _ (List.getElem_mem hi)
  have h2 := h.labs _ (List.getElem_mem hx) _ (List.getElem_mem hy)
  have e : (nodeP p).labels = ((nodeSets p).length : Nat) := rfl
  refine ⟨?_, by omega, by omega⟩
  show [at2 L (v : Int).toNat (i : Int).toNat, at2 L (x : Int).toNat (y : Int).toNat] = _
  simp only [Int.toNat_natCast]
  rw [at2_get hv hi, at2_get hx hy]

theorem PullNodeStep_ok {w : World} {c d a b e s : Sl} {p : Prob} {n : Net} {L : List (List Int)} (h : RProb w c d p) (hN : RNet w a b e n) (hl : R w s L) (hsp : SmallP p) (hn : Small n) (_hsl : SmallM L) :
    Calls Tryz.prog F.i_PullNodeStep #[.agg #[.int .i64 p.labels, .int .i64 p.degree, c.v, d.v], .agg #[a.v, b.v, e.v], s.v] w (Ret [.at .sl, .at .bool] fun (r : Sl) (y : Bool) w' => Ext w w' ∧ ∃ m, OutM w.heap.size w' r m ∧ AnsG (PnAsked p n L) (pullN p (nodeSets p) L (edgesOf n.ends) L) [] m y) := by
  refine C_i_PullNodeStep ?_
  unfold V_i_PullNodeStep
  refine NEW_intro fun pp w1 hp1 hs1 hE1 hb1 => NEW_intro fun pn w2 hp2 hs2 hE2 hb2 => ?_
  have hE := hE1.trans hE2
  replace h := h.ext hE
  replace hN := hN.ext hE
  replace hl := hl.ext hE
  replace hb1 := hb1.ext hE2
  refine LD_iiss hb1 ?_
  refine call (NodeStep_ok h hsp) ?_
  rintro x y z u S r w3 ⟨hE3, hr⟩
  replace hE := hE.ext hE3
  replace h := h.ext hE3
  replace hN := hN.ext hE3
  replace hl := hl.ext hE3
  replace hb1 := hb1.ext hE3
  replace hb2 := hb2.ext hE3
  refine NEW_ST (one4p _ _ _ _) rfl fun pq w4 hp4 hE4 hb4 => ?_
  replace hE := hE.ext hE4
  replace h := h.ext hE4
  replace hN := hN.ext hE4
  replace hl := hl.ext hE4
  replace hb1 := hb1.ext hE4
  replace hb2 := hb2.ext hE4
  rcases hr with ⟨rfl, hgd, rfl, rfl, hP⟩ | ⟨rfl, hn'⟩
  · replace hP := hP.ext hE4
    refine cond_not (fun hf => by cases hf) (fun _ => LD_box3 hb2 ?_)
    refine call (isNetwork_ok hN hn.2.2.1) ?_
    rintro t w6 ⟨ht, hE6⟩
    replace hE := hE.ext hE6
    replace h := h.ext hE6
    replace hN := hN.ext hE6
    replace hl := hl.ext hE6
    replace hb1 := hb1.ext hE6
    replace hb2 := hb2.ext hE6
    replace hb4 := hb4.ext hE6
    replace hP := hP.ext hE6
    refine cond_not (fun hfa => ⟨hE, [], OutM.nil _ _, .no fun hA => (by rw [ht.2 hA.net] at hfa; cases hfa)⟩) (fun ht2 => LD_box3 hb2 ?_)
    have hg := ht.1 ht2
    refine call (edges_ok hN hg) ?_
    rintro r3 w7 ⟨hE7, hO7⟩
    replace hE := hE.ext hE7
    replace h := h.ext hE7
    replace hN := hN.ext hE7
    replace hl := hl.ext hE7
    replace hb1 := hb1.ext hE7
    replace hb2 := hb2.ext hE7
    replace hb4 := hb4.ext hE7
    replace hP := hP.ext hE7
    refine call (containsFuncQ_ok (hO7.rep (edge_I64 hg)).any (p := Stub) fun q hq w' hw' => CALLV_mk (by kernel_rfl) (by simpa using stub_ok q w')) ?_
    rintro zz w8 ⟨hzz, hE8⟩
    replace hE := hE.ext hE8
    replace h := h.ext hE8
    replace hN := hN.ext hE8
    replace hl := hl.ext hE8
    replace hb1 := hb1.ext hE8
    replace hb2 := hb2.ext hE8
    replace hb4 := hb4.ext hE8
    replace hP := hP.ext hE8
    refine cond_b (fun ht => ⟨hE, [], OutM.nil _ _, .no fun hA => (by rw [hzz, (stubless_iff hg).2 hA.stub] at ht; cases ht)⟩) (fun hfs => LD_iiss hb4 (LD_box3 hb2 ?_))
    have hst : Stubless n.ends := (stubless_iff hg).1 (by rw [← hzz]; exact hfs)
    refine call (isSolution_ok (p := nodeP p) hP.prob (node_small hgd) (node_made hgd) hg hN hl) ?_
    rintro v w9 ⟨hv, hE9⟩
    replace hE := hE.ext hE9
    replace h := h.ext hE9
    replace hN := hN.ext hE9
    replace hl := hl.ext hE9
    replace hb1 := hb1.ext hE9
    replace hb2 := hb2.ext hE9
    replace hP := hP.ext hE9
    refine cond_not (fun hfa => ⟨hE, [], OutM.nil _ _, .no fun hA => (by rw [hv.2 ⟨hA.lab, hA.clean⟩] at hfa; cases hfa)⟩) (fun ht3 => ?_)
    obtain ⟨hLb, hCl⟩ := hv.1 ht3
    have hsome := node_some hCl
    have hLr := hLb.rows
    have h40 := hg.size.2
    have hLl : L.length ≤ 40 := by have := hLr.1; omega
    have hrl := row_len hg hLb
    have hLI : I64s L := fun r hr x hx => by
      have := hLb.labs _ hr x hx
      have e : (nodeP p).labels = ((nodeSets p).length : Nat) := rfl
      have := hgd.2.2.2
      unfold I64; omega
    have hzs := hE.size_le
    have hS8 := hgd.2.2.2
    unfold V_i_PullNodeStep_k1
    refine call (copyLists_ok hl (by omega) hrl) ?_
    rintro out w10 ⟨hE10, ss, hR10⟩
    refine LD_box3 (hb2.ext hE10) ?_
    refine call (edges_ok (hN.ext hE10) hg) ?_
    rintro r6 w11 ⟨hE11, hO11⟩
    rw [hO11.1]
    have hel := edgesTo_len hg n.ends.length (Nat.le_refl _)
    have hel2 : (edgesOf n.ends).length ≤ 240 := by unfold edgesOf; omega
    refine ⟨IN (edgesOf n.ends).length fun i w' => Ext w9 w' ∧ OwnL w' w10.heap.size T.t_i_edge r6 (edgesOf n.ends) ∧ RowsD w' w9.heap.size T.t_int T.t_sl_int out (pullN p (nodeSets p) L ((edgesOf n.ends).take i) L) ss, MN (edgesOf n.ends).length, IN_zero ⟨hE10.trans hE11, hO11, by simpa [pullN] using hR10.ext hE11⟩, ?_⟩
    rintro _ w12 ⟨i, rfl, hi, hE12, hO12, hR12⟩
    intros
    have hMr := pullN_rows (p := p) (S := nodeSets p) (L := L) ((edgesOf n.ends).take i) hLr
    have hMI := pullN_I64 (p := p) (S := nodeSets p) (L := L) ((edgesOf n.ends).take i) hLI
    refine cond_dec (fun hlt => ?_) (fun hge => ?_)
    · have hi' : i < (edgesOf n.ends).length := by omega
      have hqm := List.getElem_mem hi'
      have hsn : pullN p (nodeSets p) L ((edgesOf n.ends).take (i + 1)) L = stepN p (nodeSets p) L (pullN p (nodeSets p) L ((edgesOf n.ends).take i) L) (edgesOf n.ends)[i] := by rw [List.take_succ_eq_append_getElem hi', pullN_snoc]
      generalize pullN p (nodeSets p) L ((edgesOf n.ends).take i) L = M at *
      obtain ⟨v, pi, x, y, hq, ⟨hv, hx, hpi, hy⟩, hvL, hxL, hpiL, hyL⟩ := edge_cells hg hMr hLr hqm
      obtain ⟨he, ha1, ha2⟩ := two_labs hLb hq hvL hpiL hxL hyL
      have hps := pair_some hsome hqm
      have hC2 := pair_len hsome hqm
      have hC8 := pair_labs p (nodeSets p) L (edgesOf n.ends)[i]
      rw [he] at hps
      have hst2 : stepN p (nodeSets p) L M (edgesOf n.ends)[i] = set2 (set2 M v pi ((pairN p (nodeSets p) L (edgesOf n.ends)[i]).getD 0 0)) x y ((pairN p (nodeSets p) L (edgesOf n.ends)[i]).getD 1 0) := by
        unfold stepN
        generalize pairN p (nodeSets p) L (edgesOf n.ends)[i] = C
        rw [hq]
        rfl
      rw [hst2] at hsn
      generalize pairN p (nodeSets p) L (edgesOf n.ends)[i] = C at *
      have hCI : ∀ z ∈ C, I64 z := fun z hz => by have := hC8 z hz; unfold I64; omega
      rw [get_of (k := 0) (by omega), get_of (k := 1) (by omega)] at hsn
      refine (hO12.rep (edge_I64 hg)).any.ixQ hi' fun qa hc0 hc1 hc2 hc3 => LD_int4 hc0 hc1 hc2 hc3 ?_
      rw [hq]
      refine NEW_ST (vs := [.int .i64 (v : Int), .int .i64 (pi : Int), .int .i64 (x : Int), .int .i64 (y : Int)]) (by intro u hu; simp at hu; rcases hu with rfl | rfl | rfl | rfl <;> rfl) rfl fun pe w15 hpe hE15 hbe => ?_
      intro w16 hE16 _
      have hE56 := hE15.trans hE16
      replace hE12 := hE12.ext hE56
      replace hO12 := hO12.ext hE56
      replace hR12 := hR12.ext hE56
      replace hbe := hbe.ext hE16
      have hl16 := hl.ext hE12
      refine LD_iiss (hb1.ext hE12) (LD_bi0 hbe (hl16.ixL hvL fun qv rv hrv hcv => LD_sl hcv (LD_bi1 hbe (hrv.ixI hpiL fun q1 hI1 hc1 => LD_int hc1 (LD_bi2 hbe (hl16.ixL hxL fun qx rx hrx hcx => LD_sl hcx ⟨Ext.refl _, LD_bi3 hbe ⟨Ext.refl _, hrx.ixI hyL fun q2 hI2 hc2 => ⟨Ext.refl _, LD_int hc2 ⟨Ext.refl _, ?_⟩⟩⟩⟩))))))
      refine RUN_lits slt_int [L[v][pi], L[x][y]] (by simp) (by simp) rfl rfl fun x71 w17 hE17 hO17 => ⟨hE17, ?_⟩
      have hE917 := hE12.trans hE17
      refine call (listsOf_ok (hP.sets.ext hE917).any (hO17.rep (by intro z hz; simp at hz; rcases hz with rfl | rfl; exact hI1; exact hI2)).any (node_sets hgd.1).byte (by intro z hz; simp at hz; rcases hz with rfl | rfl; exact ha1; exact ha2) (by simp)) ?_
      rintro x72 w18 ⟨hE18, ssl, hR18⟩
      have hE918 := hE917.trans hE18
      have h64l : ∀ r ∈ listsAt (nodeSets p) [L[v][pi], L[x][y]], ∀ z ∈ r, I64 z := fun r hr z hz => by
        obtain ⟨u, _, rfl⟩ := List.mem_map.1 hr
        exact labsOf_I64 _ z hz
      refine ⟨hE17.trans hE18, call (edgeChoice_ok (h.ext hE918) hsp hgd.1 (hR18.rep h64l) rfl) ?_⟩
      rintro x73 bb w19 ⟨hE19, hm⟩
      rw [hps] at hm
      obtain ⟨rfl, hOc⟩ := hm
      have hE1619 := (hE17.trans hE18).trans hE19
      refine ⟨hE1619, hE1619, hE1619, cond_f rfl ?_⟩
      intro w20 hE20 _
      have hzw := (hE17.trans hE18).size_le
      have hE1620 := hE1619.trans hE20
      have hRc := (hOc.ext hE20).rep hCI
      obtain ⟨ra, hra, hOa16⟩ := hR12.at hv
      obtain ⟨rb, hrb, hOb16⟩ := hR12.at hx
      have hnc : ∀ k, w18.heap.size ≤ k → ¬ (oB ra k ∨ oB rb k) := fun k hk hh => by
        rcases hh with hh | hh
        · have := (hOa16.blk k hh).2; omega
        · have := (hOb16.blk k hh).2; omega
      replace hE12 := hE12.ext hE1620
      replace hO12 := hO12.ext hE1620
      replace hR12 := hR12.ext hE1620
      replace hbe := hbe.ext hE1620
      replace hOa16 := hOa16.ext hE1620
      replace hOb16 := hOb16.ext hE1620
      have hnb : ¬ (oB ra pe.block ∨ oB rb pe.block) := fun hh => hh.elim (hbe.notOwn hOa16 (by decide)) (hbe.notOwn hOb16 (by decide))
      have hns : ∀ k, out.v.ownBlock = some k → ¬ (oB ra k ∨ oB rb k) := fun k hk hh => hh.elim (fun h1 => hR12.block_ne (by decide) hra h1 hk) (fun h1 => hR12.block_ne (by decide) hrb h1 hk)
      refine ⟨fun k => oB ra k ∨ oB rb k, by rw [add_block]; exact hnb, LD_bi0 hbe ?_⟩
      refine hR12.ix hv fun pa' ra' hra' hOa' hca' hba' => ⟨hns _ hba', LD_sl hca' ?_⟩
      rw [hra] at hra'; cases hra'
      refine ⟨by rw [add_block]; exact hnb, LD_bi1 hbe ⟨by rw [add_block]; exact hnb, LD_bi2 hbe ?_⟩⟩
      refine hR12.ix hx fun pb' rb' hrb' hOb' hcb' hbb' => ⟨hns _ hbb', LD_sl hcb' ?_⟩
      rw [hrb] at hrb'; cases hrb'
      refine ⟨by rw [add_block]; exact hnb, LD_bi3 hbe ?_⟩
      refine ixID hRc (i := 0) (by omega) fun p0 hd0 hcc0 => ⟨hnc _ hd0, LD_int hcc0 ⟨Chg.refl _ _, ?_⟩⟩
      refine ixID hRc (i := 1) (by omega) fun p1 hd1 hcc1 => ⟨Chg.refl _ _, LD_int hcc1 ⟨Chg.refl _ _, ?_⟩⟩
      refine IX_own hOa' hpi rfl fun p1 hp1 => ⟨Chg.refl _ _, ?_⟩
      obtain ⟨hxl, hyl, hst3⟩ := set2_two (i := pi) hv hx hy C[0] C[1]
      refine store1 hR12 hv hpi hra hp1 fun w21 hs21 hR21 => ⟨.of_step hs21 fun k hk => .inl hk, ?_⟩
      have hO21 := hR21.row x rb _ hrb (List.getElem?_eq_getElem hxl)
      refine IX_own hO21 hyl rfl fun p2 hp2 => store1 hR21 hxl hyl hrb hp2 fun w22 hs22 hR22 => ?_
      rw [← hst3] at hR22
      have hlow := fun k hk => (hOa'.blk k hk).1
      have hlow2 := fun k hk => (hOb'.blk k hk).1
      refine IN_next (by omega) hi' ⟨hs22.ext0 (hs21.ext0 hE12 fun k hk => hlow k hk) fun k hk => hlow2 k hk, ?_, by rw [hsn]; exact hR22⟩
      exact (hO12.step hOa' (by decide) hs21).step hO21 (by decide) hs22
    · have : i = (edgesOf n.ends).length := by omega
      subst this
      rw [List.take_length] at hR12 hMr hMI
      refine ⟨hE.trans hE12, _, ⟨⟨ss, hR12.low hzs⟩, hMI, by rw [hMr.1]; omega, fun r hr => ?_⟩, .yes ⟨hgd, hg, hst, hLb, hCl⟩⟩
      obtain ⟨u, hu, rfl⟩ := List.mem_iff_getElem.1 hr
      have hu' : u < n.ends.length := by rw [← hMr.1]; exact hu
      have h1 := hMr.2 u hu
      rw [rowD hu, rowD hu'] at h1
      have := hg.deg hu'
      omega
  · refine cond_not (fun _ => ⟨hE, [], OutM.nil _ _, .no fun hA => hn' hA.good⟩) (fun ht => by cases ht)

end Go.Proofs.YtlmiookpmneicaaGreat
end

section
/- One round of elimination, refusals of zero rounds, endless problems: both sides. -/
namespace Go.Proofs.YtlmiookpmneicaaGreat
open Go.GX Go.RowKit
set_option maxRecDepth 100000

/-- What a round answers. -/
def RdIs (w : World) (q : Prob) (few : Prop) (S : List Int) (x y : Int) (z u _a1 a2 : Sl) (b : Bool) (w' : World) : Prop :=
  Ext w w' ∧ ((b = true ∧ few ∧ x = q.labels ∧ y = q.degree ∧ NewP w.heap.size w' z u a2 q S) ∨ (b = false ∧ ¬ few))

def roundP (p : Prob) : Prob := nodeP (edgeP p)
def rdFew (p : Prob) : Prop := edFew p ∧ ndFew (edgeP p)
def rdGood (p : Prob) : Prop := PGood p ∧ rdFew p

theorem made_round {p : Prob} (hg : PGood p) (h : rdFew p) : PGood (roundP p) := node_made' (edge_made ⟨hg, h.1⟩) h.2
where node_made' {q : Prob} (hq : PGood q) (h : ndFew q) : PGood (nodeP q) := (NdAsked.mk hq h.1 h.2).made

theorem small_round {p : Prob} (hg : PGood p) (h : rdFew p) : SmallP (roundP p) := by
  have hq := edge_made ⟨hg, h.1⟩
  have hd := hq.deg
  have h1 := h.2.2.2
  exact ⟨small_filter (k := (edgeP p).degree.toNat) h1 (by omega) _, small_filter (k := 2) h1 (by omega) _⟩

theorem eliminate_ok {w : World} {c d : Sl} {p : Prob} (h : RProb w c d p) (hs : SmallP p) (hg : PGood p) :
    Calls Tryz.prog F.i_eliminate #[.agg #[.int .i64 p.labels, .int .i64 p.degree, c.v, d.v]] w (Ret [.agg [.int .i64, .int .i64, .sl, .sl], .at .sl, .at .sl, .at .bool] (RdIs w (roundP p) (rdFew p) (nodeSets (edgeP p)))) := by
  refine C_i_eliminate ?_
  unfold V_i_eliminate
  refine NEW_intro fun pp w1 hp1 hs1 hE1 hb1 => NEW_intro fun px w2 hp2 hs2 hE2 hb2 => ?_
  have hE := hE1.trans hE2
  have hz1 := hE1.size_le
  replace h := h.ext hE
  replace hb1 := hb1.ext hE2
  refine LD_iiss hb1 ?_
  refine call (edgeStep_ok h hs hg) ?_
  rintro x y z u a b w3 ⟨hE3, hr⟩
  replace hE := hE.ext hE3
  replace hb1 := hb1.ext hE3
  replace hb2 := hb2.ext hE3
  refine NEW_ST (one4p _ _ _ _) rfl fun pq w5 hpq hE5 hbq => ?_
  replace hE := hE.ext hE5
  replace hb1 := hb1.ext hE5
  replace hb2 := hb2.ext hE5
  rcases hr with ⟨rfl, hfe, rfl, rfl, hP⟩ | ⟨rfl, hno⟩
  · replace hP := hP.ext hE5
    have hgq := edge_made ⟨hg, hfe⟩
    refine cond_not (fun hf => by cases hf) (fun _ => LD_iiss hbq ?_)
    refine call (nodeStep_ok (p := edgeP p) hP.prob (edge_small ⟨hg, hfe⟩) hgq) ?_
    rintro x' y' z' u' a' b' w7 ⟨hE7, hr'⟩
    have hz5 := hE.size_le
    have hl2 := hb2.lt
    replace hE := hE.ext hE7
    replace hb1 := hb1.ext hE7
    replace hb2 := hb2.ext hE7
    refine NEW_ST (one4p _ _ _ _) rfl fun pr w9 hpr hE9 hbr => ?_
    replace hE := hE.ext hE9
    replace hb1 := hb1.ext hE9
    replace hb2 := hb2.ext hE9
    rcases hr' with ⟨rfl, hfn, rfl, rfl, hP'⟩ | ⟨rfl, hno'⟩
    · refine cond_not (fun hf => by cases hf) (fun _ => LD_iiss hbr ?_)
      refine ST_all hb2 (one4p _ _ _ _) rfl fun w11 hs11 hz11 hb11 => LD_iiss hb11 ?_
      exact ⟨hs11.ext0 hE fun k hk => by cases hk; omega, .inl ⟨rfl, ⟨hfe, hfn⟩, rfl, rfl, ((hP'.ext hE9).step hs11 (by omega)).low hz5⟩⟩
    · refine cond_not (fun _ => ?_) (fun ht => by cases ht)
      exact zero_problem hE hb2 (by omega) fun w' hE' => ⟨hE', .inr ⟨rfl, fun hA => hno' hA.2⟩⟩
  · refine cond_not (fun _ => ?_) (fun ht => by cases ht)
    exact zero_problem hE hb2 (by omega) fun w' hE' => ⟨hE', .inr ⟨rfl, fun hA => hno hA.1⟩⟩

theorem EliminateRound_ok {w : World} {c d : Sl} {p : Prob} (h : RProb w c d p) (hs : SmallP p) :
    Calls Tryz.prog F.i_EliminateRound #[.agg #[.int .i64 p.labels, .int .i64 p.degree, c.v, d.v]] w (Ret [.agg [.int .i64, .int .i64, .sl, .sl], .at .sl, .at .sl, .at .bool] (RdIs w (roundP p) (rdGood p) (nodeSets (edgeP p)))) := by
  refine C_i_EliminateRound ?_
  unfold V_i_EliminateRound
  refine NEW_intro fun pp w1 hp1 hs1 hE1 hb1 => NEW_intro fun px w2 hp2 hs2 hE2 hb2 => ?_
  have hE := hE1.trans hE2
  have hz1 := hE1.size_le
  replace h := h.ext hE
  replace hb1 := hb1.ext hE2
  refine LD_iiss hb1 ?_
  refine call (IsProblem_ok h) ?_
  rintro x w3 ⟨hx, hE3⟩
  replace hE := hE.ext hE3
  replace h := h.ext hE3
  replace hb1 := hb1.ext hE3
  replace hb2 := hb2.ext hE3
  refine cond_not (fun hf => ?_) (fun ht => LD_iiss hb1 ?_)
  · exact zero_problem hE hb2 (by omega) fun w' hE' => ⟨hE', .inr ⟨rfl, fun hA => by rw [hx.2 hA.1] at hf; cases hf⟩⟩
  · have hg := hx.1 ht
    refine call (eliminate_ok h hs hg) ?_
    rintro x y z u a1 a2 b w4 ⟨hE4, hr⟩
    have hlt2 := hb2.lt
    have hz3 := hE.size_le
    refine ST_all (hb2.ext hE4) (one4p _ _ _ _) rfl fun w5 hs5 hz5 hb5 => LD_iiss hb5 ?_
    refine ⟨hs5.ext0 (hE.trans hE4) fun k hk => by cases hk; omega, ?_⟩
    rcases hr with ⟨r1, r2, r3, r4, r5⟩ | ⟨r1, r2⟩
    · exact .inl ⟨r1, ⟨hg, r2⟩, r3, r4, (r5.step hs5 (by omega)).low hz3⟩
    · exact .inr ⟨r1, fun hA => r2 hA.2⟩

theorem sEliminateRound_ok {w : World} {c d : Sl} {p : Prob} (h : RProb w c d p) :
    Calls Tryz.prog F.s_EliminateRound #[.agg #[.int .i64 p.labels, .int .i64 p.degree, c.v, d.v]] w (Ret [.agg [.int .i64, .int .i64, .sl, .sl], .at .sl, .at .sl, .at .bool] (RdIs w (roundP p) (rdGood p) (nodeSets (edgeP p)))) := by
  refine C_s_EliminateRound ?_
  unfold V_s_EliminateRound
  refine NEW_intro fun pp w1 hp1 hs1 hE1 hb1 => NEW_intro fun px w2 hp2 hs2 hE2 hb2 => ?_
  have hE := hE1.trans hE2
  have hz1 := hE1.size_le
  replace h := h.ext hE
  replace hb1 := hb1.ext hE2
  refine LD_iiss hb1 ?_
  refine call (sEdgeStep_ok h) ?_
  rintro x y z u a b w3 ⟨hE3, hr⟩
  replace hE := hE.ext hE3
  replace hb1 := hb1.ext hE3
  replace hb2 := hb2.ext hE3
  refine NEW_ST (one4p _ _ _ _) rfl fun pq w5 hpq hE5 hbq => ?_
  replace hE := hE.ext hE5
  replace hb1 := hb1.ext hE5
  replace hb2 := hb2.ext hE5
  rcases hr with ⟨rfl, hfe, rfl, rfl, hP⟩ | ⟨rfl, hno⟩
  · replace hP := hP.ext hE5
    have hgq := edge_made hfe
    refine cond_not (fun hf => by cases hf) (fun _ => LD_iiss hbq ?_)
    refine call (elNode_ok (p := edgeP p) hP.prob hgq) ?_
    rintro x' y' z' u' a' b' w7 ⟨hE7, hr'⟩
    have hz5 := hE.size_le
    have hl2 := hb2.lt
    replace hE := hE.ext hE7
    replace hb1 := hb1.ext hE7
    replace hb2 := hb2.ext hE7
    refine NEW_ST (one4p _ _ _ _) rfl fun pr w9 hpr hE9 hbr => ?_
    replace hE := hE.ext hE9
    replace hb1 := hb1.ext hE9
    replace hb2 := hb2.ext hE9
    rcases hr' with ⟨rfl, hfn, rfl, rfl, hP'⟩ | ⟨rfl, hno'⟩
    · refine cond_not (fun hf => by cases hf) (fun _ => LD_iiss hbr ?_)
      refine ST_all hb2 (one4p _ _ _ _) rfl fun w11 hs11 hz11 hb11 => LD_iiss hb11 ?_
      exact ⟨hs11.ext0 hE fun k hk => by cases hk; omega, .inl ⟨rfl, ⟨hfe.1, hfe.2, hfn⟩, rfl, rfl, ((hP'.ext hE9).step hs11 (by omega)).low hz5⟩⟩
    · refine cond_not (fun _ => ?_) (fun ht => by cases ht)
      exact zero_problem hE hb2 (by omega) fun w' hE' => ⟨hE', .inr ⟨rfl, fun hA => hno' hA.2.2⟩⟩
  · refine cond_not (fun _ => ?_) (fun ht => by cases ht)
    exact zero_problem hE hb2 (by omega) fun w' hE' => ⟨hE', .inr ⟨rfl, fun hA => hno ⟨hA.1, hA.2.1⟩⟩⟩

/-! ### Refusals of zero rounds -/

def zTwo (p : Prob) (r c : List Int) : Bool := decide (r.length = 2) && (c.contains (r.getD 0 0) && (c.contains (r.getD 1 0) && !(edgeB p (r.getD 0 0) (r.getD 1 0))))
def ZOk (p : Prob) (ps : List (List Int)) : Prop := ps.length = p.nodes.length ∧ ∀ i, i < p.nodes.length → zTwo p (ps.getD i []) (p.nodes.getD i []) = true

theorem ZOk.no {p : Prob} {ps : List (List Int)} {i : Nat} (hi : i < p.nodes.length) (hf : zTwo p (ps.getD i []) (p.nodes.getD i []) = false) : ¬ ZOk p ps := fun h => by
  have := h.2 i hi
  rw [hf] at this; cases this

theorem isZeroRefusal_ok {w : World} {c d s : Sl} {p : Prob} {ps : List (List Int)} (h : RProb w c d p) (hg : PGood p) (hs : SmallP p) (hps : R w s ps) :
    Calls Tryz.prog F.i_isZeroRefusal #[.agg #[.int .i64 p.labels, .int .i64 p.degree, c.v, d.v], s.v] w (Ret [.at .bool] fun (x : Bool) w' => (x = true ↔ ZOk p ps) ∧ Ext w w') := by
  refine C_i_isZeroRefusal ?_
  unfold V_i_isZeroRefusal
  refine NEW_intro fun pp w1 hp1 hs1 hE hb1 => LD_bs2 hb1 ?_
  replace h := h.ext hE
  replace hps := hps.ext hE
  have hno : ∀ {w' : World}, Ext w w' → ¬ ZOk p ps → (false = true ↔ ZOk p ps) ∧ Ext w w' := fun h1 h2 => ⟨by simp [h2], h1⟩
  rw [hps.len, h.nodes.len]
  refine cond_ne (fun hne => hno hE fun hZ => hne (by rw [hZ.1])) (fun heq => ?_)
  have hlen : ps.length = p.nodes.length := by have : (ps.length : Int) = p.nodes.length := heq; omega
  refine ⟨IN ps.length fun i w' => Ext w1 w' ∧ ∀ u, u < i → zTwo p (ps.getD u []) (p.nodes.getD u []) = true, MN ps.length, IN_zero ⟨Ext.refl _, fun u hu => absurd hu (by omega)⟩, ?_⟩
  rintro _ w2 ⟨i, rfl, hi, hE2, hI⟩
  intros
  refine cond_dec (fun hlt => ?_) (fun hge => ⟨⟨fun _ => ⟨hlen, fun u hu => hI u (by omega)⟩, fun _ => rfl⟩, hE.trans hE2⟩)
  have hi' : i < ps.length := by omega
  have hin : i < p.nodes.length := by omega
  have hg1 : ps.getD i [] = ps[i] := rowD hi'
  have hg2 : p.nodes.getD i [] = p.nodes[i] := rowD hin
  replace h := h.ext hE2
  replace hps := hps.ext hE2
  replace hb1 := hb1.ext hE2
  have hbad : ∀ {w' : World}, Ext w2 w' → zTwo p ps[i] p.nodes[i] = false → (false = true ↔ ZOk p ps) ∧ Ext w w' := fun hE' hf => hno (hE.trans (hE2.trans hE')) (ZOk.no hin (by rw [hg1, hg2]; exact hf))
  refine hps.ixL hi' fun q row hrow hc => LD_sl hc ?_
  rw [hrow.len]
  refine cond_ne (fun hne => fun w3 hE3 => hbad hE3 ?_) (fun heq2 => ?_)
  · have : ps[i].length ≠ 2 := by intro he; exact hne (by rw [he]; rfl)
    simp [zTwo, this]
  have hl2 : ps[i].length = 2 := by have : (ps[i].length : Int) = 2 := heq2; omega
  have h64 := flat_ok hrow.any
  have e0 : ps[i].getD 0 0 = ps[i][0] := get_of (by omega)
  have e1 : ps[i].getD 1 0 = ps[i][1] := get_of (by omega)
  have hd2 : decide (ps[i].length = 2) = true := decide_eq_true hl2
  have hz : zTwo p ps[i] p.nodes[i] = (p.nodes[i].contains ps[i][0] && (p.nodes[i].contains ps[i][1] && !(edgeB p ps[i][0] ps[i][1]))) := by
    unfold zTwo
    rw [e0, e1, hd2, Bool.true_and]
  refine LD_bs2 hb1 ?_
  refine h.nodes.ixL hin fun qn rown hrown hcn => LD_sl hcn ?_
  refine hrow.ixI (i := 0) (by omega) fun q0 hI0 hc0 => LD_int hc0 ?_
  refine QCALL_bool (p.nodes[i].contains ps[i][0]) (fun w' hw' => call (contains_ok (hrown.any.ext hw') _) fun x w'' hx => ⟨hx.1, hx.2 ▸ Ext.refl _⟩) ?_
  refine cond_not (fun hf => fun w4 hE4 => hbad hE4 (by rw [hz, hf]; rfl)) (fun ht0 => LD_bs2 hb1 ?_)
  refine h.nodes.ixL hin fun qn2 rown2 hrown2 hcn2 => LD_sl hcn2 ?_
  refine hrow.ixI (i := 1) (by omega) fun q1 hI1 hc1 => LD_int hc1 ?_
  refine QCALL_bool (p.nodes[i].contains ps[i][1]) (fun w' hw' => call (contains_ok (hrown2.any.ext hw') _) fun x w'' hx => ⟨hx.1, hx.2 ▸ Ext.refl _⟩) ?_
  refine cond_not (fun hf => fun w4 hE4 => hbad hE4 (by rw [hz, ht0, hf]; rfl)) (fun ht1 => LD_iiss hb1 ?_)
  refine hrow.ixI (i := 0) (by omega) fun q0 hI0 hc0 => LD_int hc0 ?_
  refine hrow.ixI (i := 1) (by omega) fun q1 hI1 hc1 => LD_int hc1 ?_
  refine QCALL_bool (edgeB p ps[i][0] ps[i][1]) (edgeQ h hs hg hI0 hI1) ?_
  intro w6 hE6
  refine cond_b (fun ht => hbad hE6 (by rw [hz, ht0, ht1, ht]; rfl)) (fun hf => ?_)
  refine IN_next (by have := hps.le; omega) hi' ⟨hE2.trans hE6, fun u hu => ?_⟩
  by_cases hui : u = i
  · subst hui; rw [hg1, hg2, hz, ht0, ht1, hf]; rfl
  · exact hI u (by omega)

theorem zeTwo_ok {w : World} {c d s x y : Sl} {p : Prob} {r l : List Int} (h : RProb w c d p) (hr : R w s r) (hx : R w x l) (hy : R w y l) :
    Calls Tryz.prog F.s_zeTwo #[.agg #[.int .i64 p.labels, .int .i64 p.degree, c.v, d.v], s.v, x.v, y.v] w (Ret [.at .bool] fun (b : Bool) w' => b = zTwo p r l ∧ Ext w w') := by
  refine C_s_zeTwo ?_
  unfold V_s_zeTwo
  refine NEW_intro fun pp w1 hp1 hs1 hE hb1 => ?_
  replace h := h.ext hE
  replace hr := hr.ext hE
  replace hx := hx.ext hE
  replace hy := hy.ext hE
  rw [hr.len]
  refine cond_eq (fun heq => ?_) (fun hne => fun w5 hE5 => ⟨?_, hE.trans hE5⟩)
  · have hl2 : r.length = 2 := by have : (r.length : Int) = 2 := heq; omega
    have e0 : r.getD 0 0 = r[0] := get_of (by omega)
    have e1 : r.getD 1 0 = r[1] := get_of (by omega)
    have hd2 : decide (r.length = 2) = true := decide_eq_true hl2
    have hz : zTwo p r l = (l.contains r[0] && (l.contains r[1] && !(edgeB p r[0] r[1]))) := by
      unfold zTwo
      rw [e0, e1, hd2, Bool.true_and]
    refine hr.ixI (i := 0) (by omega) fun q0 hI0 hc0 => LD_int hc0 ?_
    refine QCALL_bool (l.contains r[0]) (fun w' hw' => call (l1Has_ok (hx.ext hw') _) fun x w'' hx => ⟨hx.1, hx.2 ▸ Ext.refl _⟩) ?_
    refine cond_b (fun ht0 => ?_) (fun hf => fun w4 hE4 => ⟨by rw [hz, hf]; rfl, hE.trans hE4⟩)
    refine hr.ixI (i := 1) (by omega) fun q1 hI1 hc1 => LD_int hc1 ?_
    refine QCALL_bool (l.contains r[1]) (fun w' hw' => call (l1Has_ok (hy.ext hw') _) fun x w'' hx => ⟨hx.1, hx.2 ▸ Ext.refl _⟩) ?_
    refine cond_b (fun ht1 => LD_iiss hb1 ?_) (fun hf => fun w4 hE4 => ⟨by rw [hz, ht0, hf]; rfl, hE.trans hE4⟩)
    refine hr.ixI (i := 0) (by omega) fun q0 hI0 hc0 => LD_int hc0 ?_
    refine hr.ixI (i := 1) (by omega) fun q1 hI1 hc1 => LD_int hc1 ?_
    refine QCALL_bool (edgeB p r[0] r[1]) (prEdgeQ h hI0 hI1) ?_
    intro w2 hE2
    exact ⟨by rw [hz, ht0, ht1]; rfl, hE.trans hE2⟩
  · have : r.length ≠ 2 := by intro he; exact hne (by rw [he]; rfl)
    simp [zTwo, this]

theorem boZero_ok {w : World} {c d s : Sl} {p : Prob} {ps : List (List Int)} (h : RProb w c d p) (hg : PGood p) (hps : R w s ps) :
    Calls Tryz.prog F.s_boZero #[.agg #[.int .i64 p.labels, .int .i64 p.degree, c.v, d.v], s.v] w (Ret [.at .bool] fun (x : Bool) w' => (x = true ↔ ZOk p ps) ∧ Ext w w') := by
  refine C_s_boZero ?_
  unfold V_s_boZero
  refine NEW_intro fun p0 w1 hp1 hs1 hE hb0 => LD_iiss hb0 ?_
  replace h := h.ext hE
  replace hps := hps.ext hE
  refine C_s_CheckZeroRefusal ?_
  unfold V_s_CheckZeroRefusal
  refine NEW_intro fun pp w2 hp2 hs2 hE2 hb1 => LD_iiss hb1 ?_
  have hno : ∀ {w' : World}, Ext w w' → ¬ ZOk p ps → (false = true ↔ ZOk p ps) ∧ Ext w w' := fun h1 h2 => ⟨by simp [h2], h1⟩
  replace hE := hE.ext hE2
  replace h := h.ext hE2
  replace hps := hps.ext hE2
  refine call (prGood_ok h) ?_
  rintro x w3 ⟨hx, hE3⟩
  replace hE := hE.ext hE3
  replace h := h.ext hE3
  replace hps := hps.ext hE3
  replace hb1 := hb1.ext hE3
  refine cond_not (fun hf => by rw [hx.2 hg] at hf; cases hf) (fun _ => LD_bs2 hb1 ?_)
  rw [hps.len, h.nodes.len]
  refine cond_ne (fun hne => hno hE fun hZ => hne (by rw [hZ.1])) (fun heq => LD_bs2 hb1 ?_)
  have hlen : ps.length = p.nodes.length := by have : (ps.length : Int) = p.nodes.length := heq; omega
  rw [h.nodes.len]
  refine ⟨IN p.nodes.length fun i w' => Ext w3 w' ∧ ∀ u, u < i → zTwo p (ps.getD u []) (p.nodes.getD u []) = true, MN p.nodes.length, IN_zero ⟨Ext.refl _, fun u hu => absurd hu (by omega)⟩, ?_⟩
  rintro _ w4 ⟨i, rfl, hi, hE4, hI⟩
  intros
  refine cond_dec (fun hlt => ?_) (fun hge => ⟨⟨fun _ => ⟨hlen, fun u hu => hI u (by omega)⟩, fun _ => rfl⟩, hE.trans hE4⟩)
  have hin : i < p.nodes.length := by omega
  have hi' : i < ps.length := by omega
  have hg1 : ps.getD i [] = ps[i] := rowD hi'
  have hg2 : p.nodes.getD i [] = p.nodes[i] := rowD hin
  replace h := h.ext hE4
  replace hps := hps.ext hE4
  replace hb1 := hb1.ext hE4
  refine h.nodes.ixL hin fun qn rown hrown hcn => LD_sl hcn (LD_iiss hb1 ?_)
  refine hps.ixL hi' fun q row hrow hc => LD_sl hc ?_
  refine QCALL_bool (zTwo p ps[i] p.nodes[i]) (fun w' hw' => zeTwo_ok (h.ext hw') (hrow.any.ext hw') (hrown.any.ext hw') (hrown.any.ext hw')) ?_
  intro w5 hE5
  refine cond_not (fun hf => hno (hE.trans (hE4.trans hE5)) (ZOk.no hin (by rw [hg1, hg2]; exact hf))) (fun ht => ?_)
  refine IN_next (by have := h.nodes.le; omega) hin ⟨hE4.trans hE5, fun u hu => ?_⟩
  by_cases hui : u = i
  · subst hui; rw [hg1, hg2]; exact ht
  · exact hI u (by omega)

/-! ### Endless problems -/

def EdAns (p : Prob) (f : List Int) (ps : List (List Int)) (x ok : Bool) : Prop := (ok = true ∧ rdGood p ∧ (x = true ↔ MapOk (roundP p) p f ∧ ZOk p ps)) ∨ (ok = false ∧ x = false ∧ ¬ rdGood p)

theorem EdAns.eq {p : Prob} {f : List Int} {ps : List (List Int)} {x ok y ok' : Bool} (h : EdAns p f ps x ok) (h' : EdAns p f ps y ok') : x = y ∧ ok = ok' := by
  rcases h with ⟨rfl, h1, h2⟩ | ⟨rfl, rfl, h1⟩
  · rcases h' with ⟨rfl, _, h3⟩ | ⟨rfl, rfl, h3⟩
    · exact ⟨by rw [Bool.eq_iff_iff, h2, h3], rfl⟩
    · exact absurd h1 h3
  · rcases h' with ⟨rfl, h3, _⟩ | ⟨rfl, rfl, h3⟩
    · exact absurd h3 h1
    · exact ⟨rfl, rfl⟩

theorem CheckEndless_ok {w : World} {c d s t : Sl} {p : Prob} {f : List Int} {ps : List (List Int)} (h : RProb w c d p) (hf : R w s f) (hps : R w t ps) (hs : SmallP p) (_hp1 : SmallM ps) :
    Calls Tryz.prog F.i_CheckEndless #[.agg #[.int .i64 p.labels, .int .i64 p.degree, c.v, d.v], s.v, t.v] w (Ret [.at .bool, .at .bool] fun (x : Bool) (ok : Bool) w' => EdAns p f ps x ok ∧ Ext w w') := by
  refine C_i_CheckEndless ?_
  unfold V_i_CheckEndless
  refine NEW_intro fun pp w1 hp1 hs1 hE hb1 => LD_iiss hb1 ?_
  replace h := h.ext hE
  replace hf := hf.ext hE
  replace hps := hps.ext hE
  refine call (EliminateRound_ok h hs) ?_
  rintro x y z u a1 a2 b w2 ⟨hE2, hr⟩
  replace hE := hE.ext hE2
  replace h := h.ext hE2
  replace hf := hf.ext hE2
  replace hps := hps.ext hE2
  replace hb1 := hb1.ext hE2
  refine NEW_ST (one4p _ _ _ _) rfl fun pq w4 hp4 hE4 hb4 => ?_
  replace hE := hE.ext hE4
  replace h := h.ext hE4
  replace hf := hf.ext hE4
  replace hps := hps.ext hE4
  replace hb1 := hb1.ext hE4
  rcases hr with ⟨rfl, hgd, rfl, rfl, hP⟩ | ⟨rfl, hno⟩
  · replace hP := hP.ext hE4
    refine cond_not (fun hf => by cases hf) (fun _ => LD_iiss hb4 (LD_iiss hb1 ?_))
    refine call (isLabelMap_ok (p := roundP p) (q := p) hP.prob h (made_round hgd.1 hgd.2) hgd.1 (small_round hgd.1 hgd.2) hs hf) ?_
    rintro v w5 ⟨hv, hE5⟩
    replace hE := hE.ext hE5
    replace h := h.ext hE5
    replace hf := hf.ext hE5
    replace hps := hps.ext hE5
    replace hb1 := hb1.ext hE5
    refine cond_b (fun ht => LD_iiss hb1 ?_) (fun hfa => ⟨.inl ⟨rfl, hgd, by simp only [Bool.false_eq_true, false_iff]; exact fun hA => (by rw [hv.2 hA.1] at hfa; cases hfa)⟩, hE⟩)
    refine call (isZeroRefusal_ok h hgd.1 hs hps) ?_
    rintro q w6 ⟨hq, hE6⟩
    exact ⟨.inl ⟨rfl, hgd, by rw [hq]; exact ⟨fun hZ => ⟨hv.1 ht, hZ⟩, fun hA => hA.2⟩⟩, hE.trans hE6⟩
  · exact cond_not (fun _ => ⟨.inr ⟨rfl, rfl, hno⟩, hE⟩) (fun ht => by cases ht)


theorem sCheckEndless_ok {w : World} {c d s t : Sl} {p : Prob} {f : List Int} {ps : List (List Int)} (h : RProb w c d p) (hf : R w s f) (hps : R w t ps)   :
    Calls Tryz.prog F.s_CheckEndless #[.agg #[.int .i64 p.labels, .int .i64 p.degree, c.v, d.v], s.v, t.v] w (Ret [.at .bool, .at .bool] fun (x : Bool) (ok : Bool) w' => EdAns p f ps x ok ∧ Ext w w') := by
  refine C_s_CheckEndless ?_
  unfold V_s_CheckEndless
  refine NEW_intro fun pp w1 hp1 hs1 hE hb1 => LD_iiss hb1 ?_
  replace h := h.ext hE
  replace hf := hf.ext hE
  replace hps := hps.ext hE
  refine call (sEliminateRound_ok h) ?_
  rintro x y z u a1 a2 b w2 ⟨hE2, hr⟩
  replace hE := hE.ext hE2
  replace h := h.ext hE2
  replace hf := hf.ext hE2
  replace hps := hps.ext hE2
  replace hb1 := hb1.ext hE2
  refine NEW_ST (one4p _ _ _ _) rfl fun pq w4 hp4 hE4 hb4 => ?_
  replace hE := hE.ext hE4
  replace h := h.ext hE4
  replace hf := hf.ext hE4
  replace hps := hps.ext hE4
  replace hb1 := hb1.ext hE4
  rcases hr with ⟨rfl, hgd, rfl, rfl, hP⟩ | ⟨rfl, hno⟩
  · replace hP := hP.ext hE4
    refine cond_not (fun hf => by cases hf) (fun _ => LD_iiss hb4 (LD_iiss hb1 ?_))
    refine call (reMap_ok (p := roundP p) (q := p) hP.prob h (made_round hgd.1 hgd.2) hgd.1 hf) ?_
    rintro v w5 ⟨hv, hE5⟩
    replace hE := hE.ext hE5
    replace h := h.ext hE5
    replace hf := hf.ext hE5
    replace hps := hps.ext hE5
    replace hb1 := hb1.ext hE5
    refine cond_b (fun ht => LD_iiss hb1 ?_) (fun hfa => ⟨.inl ⟨rfl, hgd, by simp only [Bool.false_eq_true, false_iff]; exact fun hA => (by rw [hv.2 hA.1] at hfa; cases hfa)⟩, hE⟩)
    refine call (boZero_ok h hgd.1 hps) ?_
    rintro q w6 ⟨hq, hE6⟩
    exact ⟨.inl ⟨rfl, hgd, by rw [hq]; exact ⟨fun hZ => ⟨hv.1 ht, hZ⟩, fun hA => hA.2⟩⟩, hE.trans hE6⟩
  · exact cond_not (fun _ => ⟨.inr ⟨rfl, rfl, hno⟩, hE⟩) (fun ht => by cases ht)


end Go.Proofs.YtlmiookpmneicaaGreat
end

section
/- The walk of the law FnExactCheckEndless. -/
namespace Go.Proofs.YtlmiookpmneicaaGreat
open Go.GX Go.RowKit
set_option maxRecDepth 100000
set_option maxHeartbeats 800000

theorem fnExactCheckEndless_ok {w : World} {c0 e0 : Sl} {q0 : Prob} {s1 : Sl} {l1 : List Int} {s2 : Sl} {l2 : List (List Int)} (h0 : RProb w c0 e0 q0) (h1 : R w s1 l1) (h2 : R w s2 l2) :
    Calls Tryz.prog F.l_FnExactCheckEndless #[.agg #[.int .i64 q0.labels, .int .i64 q0.degree, c0.v, e0.v], s1.v, s2.v] w (Ret [.at .bool] fun (x : Bool) w' => x = true ∧ Ext w w') := by
  refine C_l_FnExactCheckEndless ?_
  unfold V_l_FnExactCheckEndless
  refine NEW_intro fun p0 u0 hp0 hs0 hA0 hb0 => ?_
  have hE := hA0
  replace h0 := h0.ext hA0
  replace h1 := h1.ext hA0
  replace h2 := h2.ext hA0
  rw [h1.len]
  refine cond_dec (fun _ => ⟨rfl, hE⟩) (fun hm1 => ?_)
  have hm1' : l1.length ≤ 1048576 := by omega
  refine LD_iiss hb0 ?_
  refine call (szProblem_ok h0 1048576 (by omega) (by omega)) ?_
  rintro z0 x0 ⟨hz0, hB0⟩
  replace hE := hE.ext hB0
  replace h0 := h0.ext hB0
  replace h1 := h1.ext hB0
  replace h2 := h2.ext hB0
  replace hb0 := hb0.ext hB0
  refine cond_dec (fun _ => ⟨rfl, hE⟩) (fun hzl0 => ?_)
  have hS0 := (hz0 (by omega)).1
  have hzz0 := (hz0 (by omega)).2
  refine call (szIntSS_ok h2 z0 (by omega) (by omega)) ?_
  rintro z2 _ ⟨hz2, rfl⟩
  refine cond_dec (fun _ => ⟨rfl, hE⟩) (fun hzl2 => ?_)
  obtain ⟨hzz2, hza2, hzb2⟩ := hz2 (by omega)
  have hS2 : SmallM l2 := ⟨by omega, fun r hr => by have := hzb2 r hr; omega⟩
  refine LD_iiss hb0 ?_
  refine call (toProblem_ok h0 hS0) ?_
  rintro _ _ zs0 us0 ws0 ⟨rfl, rfl, hEs0, hNs0⟩
  replace hE := hE.ext hEs0
  replace h0 := h0.ext hEs0
  replace h1 := h1.ext hEs0
  replace h2 := h2.ext hEs0
  replace hb0 := hb0.ext hEs0
  refine call (toIntS_ok h1 hm1') ?_
  rintro ss1 ws1 ⟨hEs1, hOs1⟩
  replace hE := hE.ext hEs1
  replace h0 := h0.ext hEs1
  replace h1 := h1.ext hEs1
  replace h2 := h2.ext hEs1
  replace hb0 := hb0.ext hEs1
  replace hNs0 := hNs0.ext hEs1
  have hRs1 := (hOs1.rep (flat_ok h1)).any
  refine call (toIntSS_own h2 hS2.1 hS2.2) ?_
  rintro ss2 ws2 ⟨hEs2, hOs2⟩
  replace hE := hE.ext hEs2
  replace h0 := h0.ext hEs2
  replace h1 := h1.ext hEs2
  replace h2 := h2.ext hEs2
  replace hb0 := hb0.ext hEs2
  replace hNs0 := hNs0.ext hEs2
  replace hRs1 := hRs1.ext hEs2
  have hRs2 := hOs2.rep (flat_okII h2)
  refine call (sCheckEndless_ok hNs0 hRs1 hRs2) ?_
  rintro r10 r11 wA ⟨hA1, hC1⟩
  replace hE := hE.ext hC1
  replace h0 := h0.ext hC1
  replace h1 := h1.ext hC1
  replace h2 := h2.ext hC1
  replace hb0 := hb0.ext hC1
  replace hNs0 := hNs0.ext hC1
  replace hRs1 := hRs1.ext hC1
  replace hRs2 := hRs2.ext hC1
  refine LD_iiss hb0 ?_
  refine call (toProblem_ok h0 hS0) ?_
  rintro _ _ zi0 ui0 wi0 ⟨rfl, rfl, hEi0, hNi0⟩
  replace hE := hE.ext hEi0
  replace h0 := h0.ext hEi0
  replace h1 := h1.ext hEi0
  replace h2 := h2.ext hEi0
  replace hb0 := hb0.ext hEi0
  replace hNs0 := hNs0.ext hEi0
  replace hRs1 := hRs1.ext hEi0
  replace hRs2 := hRs2.ext hEi0
  refine NEW_ST (one4p _ _ _ _) rfl fun yi0 vi0 hqi0 hFi0 hc0 => ?_
  replace hE := hE.ext hFi0
  replace h0 := h0.ext hFi0
  replace h1 := h1.ext hFi0
  replace h2 := h2.ext hFi0
  replace hb0 := hb0.ext hFi0
  replace hNs0 := hNs0.ext hFi0
  replace hRs1 := hRs1.ext hFi0
  replace hRs2 := hRs2.ext hFi0
  replace hNi0 := hNi0.ext hFi0
  refine call (toIntS_ok h1 hm1') ?_
  rintro si1 wi1 ⟨hEi1, hOi1⟩
  replace hE := hE.ext hEi1
  replace h0 := h0.ext hEi1
  replace h1 := h1.ext hEi1
  replace h2 := h2.ext hEi1
  replace hb0 := hb0.ext hEi1
  replace hNs0 := hNs0.ext hEi1
  replace hRs1 := hRs1.ext hEi1
  replace hRs2 := hRs2.ext hEi1
  replace hNi0 := hNi0.ext hEi1
  replace hc0 := hc0.ext hEi1
  have hRi1 := (hOi1.rep (flat_ok h1)).any
  refine call (toIntSS_own h2 hS2.1 hS2.2) ?_
  rintro si2 wi2 ⟨hEi2, hOi2⟩
  replace hE := hE.ext hEi2
  replace h0 := h0.ext hEi2
  replace h1 := h1.ext hEi2
  replace h2 := h2.ext hEi2
  replace hb0 := hb0.ext hEi2
  replace hNs0 := hNs0.ext hEi2
  replace hRs1 := hRs1.ext hEi2
  replace hRs2 := hRs2.ext hEi2
  replace hNi0 := hNi0.ext hEi2
  replace hc0 := hc0.ext hEi2
  replace hRi1 := hRi1.ext hEi2
  have hRi2 := hOi2.rep (flat_okII h2)
  refine LD_iiss hc0 ?_
  refine call (CheckEndless_ok hNi0 hRi1 hRi2 hS0 hS2) ?_
  rintro r20 r21 wE ⟨hA2, hC2⟩
  replace hE := hE.ext hC2
  replace h0 := h0.ext hC2
  replace h1 := h1.ext hC2
  replace h2 := h2.ext hC2
  replace hb0 := hb0.ext hC2
  replace hNs0 := hNs0.ext hC2
  replace hRs1 := hRs1.ext hC2
  replace hRs2 := hRs2.ext hC2
  replace hNi0 := hNi0.ext hC2
  replace hc0 := hc0.ext hC2
  replace hRi1 := hRi1.ext hC2
  replace hRi2 := hRi2.ext hC2
  obtain ⟨rfl, rfl⟩ := hA1.eq hA2
  refine cond_f (by simp) ?_
  refine cond_f (by simp) ?_
  unfold V_l_FnExactCheckEndless_k4
  intro m0 hG0 _
  replace hE := hE.ext hG0
  replace h0 := h0.ext hG0
  replace h1 := h1.ext hG0
  replace h2 := h2.ext hG0
  replace hb0 := hb0.ext hG0
  replace hNs0 := hNs0.ext hG0
  replace hRs1 := hRs1.ext hG0
  replace hRs2 := hRs2.ext hG0
  replace hNi0 := hNi0.ext hG0
  replace hc0 := hc0.ext hG0
  replace hRi1 := hRi1.ext hG0
  replace hRi2 := hRi2.ext hG0
  refine LD_iiss hc0 (LD_iiss hb0 ?_)
  refine ⟨Ext.refl _, call (toProblem_ok h0 hS0) ?_⟩
  rintro _ _ ze0 ue0 we0 ⟨rfl, rfl, hH0, hNe0⟩
  replace hE := hE.ext hH0
  replace h0 := h0.ext hH0
  replace h1 := h1.ext hH0
  replace h2 := h2.ext hH0
  replace hb0 := hb0.ext hH0
  replace hNs0 := hNs0.ext hH0
  replace hRs1 := hRs1.ext hH0
  replace hRs2 := hRs2.ext hH0
  replace hNi0 := hNi0.ext hH0
  replace hc0 := hc0.ext hH0
  replace hRi1 := hRi1.ext hH0
  replace hRi2 := hRi2.ext hH0
  refine ⟨hH0, call (eqProblem_ok hNi0 hNe0) ?_⟩
  rintro _ wf0 ⟨rfl, hK0⟩
  replace hE := hE.ext hK0
  replace h0 := h0.ext hK0
  replace h1 := h1.ext hK0
  replace h2 := h2.ext hK0
  replace hb0 := hb0.ext hK0
  replace hNs0 := hNs0.ext hK0
  replace hRs1 := hRs1.ext hK0
  replace hRs2 := hRs2.ext hK0
  replace hNi0 := hNi0.ext hK0
  replace hc0 := hc0.ext hK0
  replace hRi1 := hRi1.ext hK0
  replace hRi2 := hRi2.ext hK0
  refine ⟨hH0.trans hK0, cond_f (by simp) ?_⟩
  refine call (toIntS_ok h1 hm1') ?_
  rintro se1 we1 ⟨hH1, hOe1⟩
  replace hE := hE.ext hH1
  replace h0 := h0.ext hH1
  replace h1 := h1.ext hH1
  replace h2 := h2.ext hH1
  replace hb0 := hb0.ext hH1
  replace hNs0 := hNs0.ext hH1
  replace hRs1 := hRs1.ext hH1
  replace hRs2 := hRs2.ext hH1
  replace hNi0 := hNi0.ext hH1
  replace hc0 := hc0.ext hH1
  replace hRi1 := hRi1.ext hH1
  replace hRi2 := hRi2.ext hH1
  refine call (eqIntS_ok hRi1 (hOe1.rep (flat_ok h1)).any) ?_
  rintro _ wf1 ⟨rfl, hK1⟩
  replace hE := hE.ext hK1
  replace h0 := h0.ext hK1
  replace h1 := h1.ext hK1
  replace h2 := h2.ext hK1
  replace hb0 := hb0.ext hK1
  replace hNs0 := hNs0.ext hK1
  replace hRs1 := hRs1.ext hK1
  replace hRs2 := hRs2.ext hK1
  replace hNi0 := hNi0.ext hK1
  replace hc0 := hc0.ext hK1
  replace hRi1 := hRi1.ext hK1
  replace hRi2 := hRi2.ext hK1
  refine cond_f (by simp) ?_
  refine call (toIntSS_own h2 hS2.1 hS2.2) ?_
  rintro se2 we2 ⟨hH2, hOe2⟩
  replace hE := hE.ext hH2
  replace h0 := h0.ext hH2
  replace h1 := h1.ext hH2
  replace h2 := h2.ext hH2
  replace hb0 := hb0.ext hH2
  replace hNs0 := hNs0.ext hH2
  replace hRs1 := hRs1.ext hH2
  replace hRs2 := hRs2.ext hH2
  replace hNi0 := hNi0.ext hH2
  replace hc0 := hc0.ext hH2
  replace hRi1 := hRi1.ext hH2
  replace hRi2 := hRi2.ext hH2
  refine call (eqIntSS_ok hRi2 (hOe2.rep (flat_okII h2))) ?_
  rintro _ wf2 ⟨rfl, hK2⟩
  replace hE := hE.ext hK2
  replace h0 := h0.ext hK2
  replace h1 := h1.ext hK2
  replace h2 := h2.ext hK2
  replace hb0 := hb0.ext hK2
  replace hNs0 := hNs0.ext hK2
  replace hRs1 := hRs1.ext hK2
  replace hRs2 := hRs2.ext hK2
  replace hNi0 := hNi0.ext hK2
  replace hc0 := hc0.ext hK2
  replace hRi1 := hRi1.ext hK2
  replace hRi2 := hRi2.ext hK2
  refine cond_f (by simp) ?_
  exact ⟨rfl, hE⟩

end Go.Proofs.YtlmiookpmneicaaGreat
end

section
/- Facts of this seat's program that every claim's last step asks for, each computed once (together they need more memory than a text may use). -/
namespace Go.Proofs.YtlmiookpmneicaaGreat


theorem door_enters : Tryz.pinned.checked.prog.mayEnter = true := by kernel_rfl

theorem door_lifts : Tryz.pinned.checked.prog.liftsFinal = false := by kernel_rfl

theorem door_heard : Tryz.pinned.checked.prog.stopsHeard = true := by kernel_rfl

theorem door_laid : laidOutB Tryz.pinned.checked.prog = true := by kernel_rfl

theorem door_maps : mapsRowed Tryz.pinned.checked.prog = true := by kernel_rfl

end Go.Proofs.YtlmiookpmneicaaGreat
end

section
/- Labels pulled through the node step, the reference. -/
namespace Go.Proofs.YtlmiookpmneicaaGreat
open Go.GX Go.RowKit
set_option maxRecDepth 100000

theorem elStubless_ok {w : World} {a b c : Sl} {n : Net} (h : RNet w a b c n) (hg : Good n) :
    Calls Tryz.prog F.s_elStubless #[.agg #[a.v, b.v, c.v]] w (Ret [.at .bool] fun (x : Bool) w' => (x = true ↔ Stubless n.ends) ∧ Ext w w') := by
  refine C_s_elStubless ?_
  unfold V_s_elStubless
  refine NEW_intro fun pn w1 hp1 hs1 hE1 hb1 => LD_bs0 hb1 ?_
  have hE := (h.ext hE1).1
  have h40 := hg.size.2
  rw [hE.len]
  refine ⟨IN n.ends.length fun v w' => Ext w1 w' ∧ ∀ u i, u < v → port n.ends u i ≠ some ((u : Int), (i : Int)), MN n.ends.length, IN_zero ⟨Ext.refl _, fun u i hu => absurd hu (by omega)⟩, ?_⟩
  rintro _ w2 ⟨v, rfl, hv, hE2, hI⟩
  intros
  refine cond_dec (fun hlt => ?_) (fun hge => ?_)
  · have hv' : v < n.ends.length := by omega
    refine (hE.ext hE2).ixL hv' fun q row hrow hc => LD_sl hc ?_
    have hd := hg.deg hv'
    rw [hrow.len]
    refine ⟨IN n.ends[v].length fun j w' => Ext w2 w' ∧ ∀ i, i < j → port n.ends v i ≠ some ((v : Int), (i : Int)), MN n.ends[v].length, IN_zero ⟨Ext.refl _, fun i hi => absurd hi (by omega)⟩, ?_⟩
    rintro _ w3 ⟨j, rfl, hj, hE3, hJ⟩
    intros
    refine cond_dec (fun hlt2 => ?_) (fun hge2 => ?_)
    · have hj' : j < n.ends[v].length := by omega
      refine (hrow.ext hE3).ixE hj' fun q hI0 hI1 hc0 hc1 => LD_int2 hc0 hc1 ?_
      refine NEW_ST (one2 _ _) rfl fun pe w5 hpe hE5 hbe => LD_box2 hbe ?_
      refine AEQ_eql2 end_struct ?_
      refine cond_dec (fun heq => ⟨⟨fun hf => (by cases hf), fun hS => absurd (by rw [port_get hv' hj']; exact congrArg some heq) (hS v j)⟩, hE1.trans (hE2.trans (hE3.trans hE5))⟩) (fun hne => ?_)
      refine IN_next (by omega) hj' ⟨hE3.trans hE5, fun i hi => ?_⟩
      by_cases hij : i = j
      · subst hij
        rw [port_get hv' hj']
        intro hh
        exact hne (Option.some.inj hh)
      · exact hJ i (by omega)
    · have : j = n.ends[v].length := by omega
      subst this
      refine IN_next (by omega) hv' ⟨hE2.trans hE3, fun u i hu => ?_⟩
      by_cases huv : u = v
      · subst huv
        by_cases hi : i < n.ends[u].length
        · exact hJ i hi
        · intro hp
          obtain ⟨_, hi', _⟩ := port_some hp
          exact hi hi'
      · exact hI u i (by omega)
  · have : v = n.ends.length := by omega
    subst this
    refine ⟨⟨fun _ u i hp => ?_, fun _ => rfl⟩, hE1.trans hE2⟩
    obtain ⟨hu, _, _⟩ := port_some hp
    exact hI u i hu hp

theorem elPullNode_ok {w : World} {c d a b e s t : Sl} {p : Prob} {n : Net} {L : List (List Int)} (h : RProb w c d p) (hgd : ndGood p) (hS : R w s (nodeSets p)) (hN : RNet w a b e n) (hg : Good n) (hl : R w t L) (hLb : LabOk (nodeP p) n.ends L) (hCl : Clean (nodeP p) n.ends L) :
    Calls Tryz.prog F.s_elPullNode #[.agg #[.int .i64 p.labels, .int .i64 p.degree, c.v, d.v], s.v, .agg #[a.v, b.v, e.v], t.v] w (Ret [.at .sl] fun (r : Sl) w' => Ext w w' ∧ R w' r (pullN p (nodeSets p) L (edgesOf n.ends) L)) := by
  refine C_s_elPullNode ?_
  unfold V_s_elPullNode
  refine NEW_intro fun pp w1 hp1 hs1 hE1 hb1 => NEW_intro fun pn w2 hp2 hs2 hE2 hb2 => ?_
  have hE := hE1.trans hE2
  replace h := h.ext hE
  replace hS := hS.ext hE
  replace hN := hN.ext hE
  replace hl := hl.ext hE
  replace hb1 := hb1.ext hE2
  have hsome := node_some hCl
  have hLr := hLb.rows
  have h40 := hg.size.2
  have hLl : L.length ≤ 40 := by have := hLr.1; omega
  have hrl := row_len hg hLb
  have hS8 := hgd.2.2.2
  have hSB := node_sets hgd.1
  rw [hl.len]
  refine ⟨IN2 L.length fun i (out : Sl) w' => Ext w2 w' ∧ ∃ ss, RowsD w' w2.heap.size T.t_int T.t_sl_int out (zeroM (L.take i)) ss, MN2 L.length, IN2_zero ⟨Ext.refl _, [], by simpa [zeroM] using RowsD.nil _ _ _ _⟩, ?_⟩
  rintro out _ w3 ⟨i, rfl, hi, hE3, ss, hR3⟩
  intros
  refine cond_dec (fun hlt => ?_) (fun hge => ?_)
  · have hi' : i < L.length := by omega
    refine (hl.ext hE3).ixL hi' fun q row hrow hc => LD_sl hc ?_
    have hri := hrl _ (List.getElem_mem hi')
    rw [hrow.len]
    refine RUN_makeI rfl (by omega) fun r w4 hE4 hO4 => ?_
    refine RUN_lit1 (α := Sl) slt_rows r rfl (by decide) fun y w5 hE5 hO5 => ?_
    have hz3 := hE3.size_le
    have hE35 := hE4.trans hE5
    have hR5 := hR3.ext hE35
    have hll : (zeroM (L.take i)).length = i := by unfold zeroM; rw [List.length_map, List.length_take]; omega
    refine RUN_append_rowD slt_rows (by decide) hR5 (by have := hE35.size_le; omega) ((hO4.ext hE5).low hz3) (hR3.fresh (hO4.ext hE5) (Nat.le_refl _)) hO5 (by omega) (by unfold maxLen; omega) fun s' w6 hR6 hs6 => ?_
    refine IN2_next hl.le hi' ⟨hs6.ext0 (hE3.trans hE35) fun k hk => (hR5.own.blk k hk).1, ss ++ [r], ?_⟩
    have e1 : zeroM (L.take (i + 1)) = zeroM (L.take i) ++ [List.replicate L[i].length 0] := by
      unfold zeroM
      rw [List.take_succ_eq_append_getElem hi', List.map_append]; rfl
    rw [e1]
    exact hR6
  · have : i = L.length := by omega
    subst this
    rw [List.take_length] at hR3
    refine LD_box3 (hb2.ext hE3) ?_
    refine call (neEdges_ok (hN.ext hE3) hg) ?_
    rintro r7 w7 ⟨hE7, hO7⟩
    have hL7 := hO7.repD (four_ok hg)
    have hlen4 : ((edgesOf n.ends).map four).length = (edgesOf n.ends).length := by simp
    have hel := edgesTo_len hg n.ends.length (Nat.le_refl _)
    have hel2 : (edgesOf n.ends).length ≤ 240 := by unfold edgesOf; omega
    rw [hL7.len, hlen4]
    have hss : ∀ (j : Nat) (q : Sl), ss[j]? = some q → ∀ k, q.v.ownBlock = some k → k < w3.heap.size := fun j q hq k hk => by
      have hj : j < (zeroM L).length := by rw [← hR3.len]; exact (List.getElem?_eq_some_iff.1 hq).1
      exact ((hR3.row j q _ hq (List.getElem?_eq_getElem hj)).blk k hk).2
    have hZr := zeroM_rows hLr
    have hZI : I64s (zeroM L) := fun r hr x hx => by
      unfold zeroM at hr
      obtain ⟨u, _, rfl⟩ := List.mem_map.1 hr
      rw [List.eq_of_mem_replicate hx]
      unfold I64; omega
    refine ⟨IN (edgesOf n.ends).length fun i w' => Ext w2 w' ∧ w3.heap.size ≤ w'.heap.size ∧ SlR (fun b => w3.heap.size ≤ b) w' r7 ((edgesOf n.ends).map four) ∧ RowsD w' w2.heap.size T.t_int T.t_sl_int out (pullN p (nodeSets p) L ((edgesOf n.ends).take i) (zeroM L)) ss, MN (edgesOf n.ends).length, IN_zero ⟨hE3.trans hE7, hE7.size_le, hL7, by simpa [pullN] using hR3.ext hE7⟩, ?_⟩
    rintro _ w8 ⟨i, rfl, hi, hE8, hz8, hL8, hR8⟩
    intros
    have hMr := pullN_rows (p := p) (S := nodeSets p) (L := L) ((edgesOf n.ends).take i) hZr
    have hMI := pullN_I64 (p := p) (S := nodeSets p) (L := L) ((edgesOf n.ends).take i) hZI
    refine cond_dec (fun hlt => ?_) (fun hge => ?_)
    · have hi' : i < (edgesOf n.ends).length := by omega
      have hqm := List.getElem_mem hi'
      have hsn : pullN p (nodeSets p) L ((edgesOf n.ends).take (i + 1)) (zeroM L) = stepN p (nodeSets p) L (pullN p (nodeSets p) L ((edgesOf n.ends).take i) (zeroM L)) (edgesOf n.ends)[i] := by rw [List.take_succ_eq_append_getElem hi', pullN_snoc]
      generalize pullN p (nodeSets p) L ((edgesOf n.ends).take i) (zeroM L) = M at *
      obtain ⟨v, pi, x, y, hq, ⟨hv, hx, hpi, hy⟩, hvL, hxL, hpiL, hyL⟩ := edge_cells hg hMr hLr hqm
      obtain ⟨he, ha1, ha2⟩ := two_labs hLb hq hvL hpiL hxL hyL
      have hps := pair_some hsome hqm
      have hC2 := pair_len hsome hqm
      have hC8 := pair_labs p (nodeSets p) L (edgesOf n.ends)[i]
      rw [he] at hps
      have hst2 : stepN p (nodeSets p) L M (edgesOf n.ends)[i] = set2 (set2 M v pi ((pairN p (nodeSets p) L (edgesOf n.ends)[i]).getD 0 0)) x y ((pairN p (nodeSets p) L (edgesOf n.ends)[i]).getD 1 0) := by
        unfold stepN
        generalize pairN p (nodeSets p) L (edgesOf n.ends)[i] = C
        rw [hq]
        rfl
      rw [hst2] at hsn
      generalize pairN p (nodeSets p) L (edgesOf n.ends)[i] = C at *
      have hCI : ∀ z ∈ C, I64 z := fun z hz => by have := hC8 z hz; unfold I64; omega
      rw [get_of (k := 0) (by omega), get_of (k := 1) (by omega)] at hsn
      refine hL8.ixL (by rw [hlen4]; exact hi') fun qa r35 hR35 hc => LD_sl hc ?_
      have h4 : ((edgesOf n.ends).map four)[i]'(by rw [hlen4]; exact hi') = [(v : Int), (pi : Int), (x : Int), (y : Int)] := by simp [hq, four]
      rw [h4] at hR35
      intro w9 hE9 _
      replace hE8 := hE8.ext hE9
      replace hL8 := hL8.ext hE9
      replace hR8 := hR8.ext hE9
      replace hR35 := hR35.ext hE9
      have hl9 := hl.ext hE8
      have hS9 := hS.ext hE8
      obtain ⟨A, hA⟩ := Int.eq_ofNat_of_zero_le ha1.1
      obtain ⟨B, hB⟩ := Int.eq_ofNat_of_zero_le ha2.1
      have hA' : A < (nodeSets p).length := by omega
      have hB' : B < (nodeSets p).length := by omega
      refine LD_bs3 (hb1.ext hE8) ?_
      refine hR35.ixI (i := 0) (by simp) fun q0 _ hc0 => LD_int hc0 ?_
      refine hl9.ixL hvL fun qv rv hrv hcv => LD_sl hcv ?_
      refine hR35.ixI (i := 1) (by simp) fun q0 _ hc0 => LD_int hc0 ?_
      refine hrv.ixI hpiL fun q1 _ hc1 => LD_int hc1 ?_
      rw [hA]
      refine hS9.ixI hA' fun qs hIA hcs => LD_int hcs ?_
      refine hR35.ixI (i := 2) (by simp) fun q0 _ hc0 => LD_int hc0 ?_
      refine hl9.ixL hxL fun qx rx hrx hcx => LD_sl hcx ⟨Ext.refl _, ?_⟩
      refine hR35.ixI (i := 3) (by simp) fun q0 _ hc0 => ⟨Ext.refl _, LD_int hc0 ⟨Ext.refl _, ?_⟩⟩
      refine hrx.ixI hyL fun q2 _ hc2 => ⟨Ext.refl _, LD_int hc2 ⟨Ext.refl _, ?_⟩⟩
      rw [hB]
      refine hS9.ixI hB' fun qs2 hIB hcs2 => ⟨Ext.refl _, LD_int hcs2 ⟨Ext.refl _, ?_⟩⟩
      refine RUN_lits slt_int [(nodeSets p)[A], (nodeSets p)[B]] (by simp) (by simp) rfl rfl fun x67 w10 hE10 hO10 => ⟨hE10, ?_⟩
      have hE210 := hE8.trans hE10
      have hSb : ∀ z ∈ [(nodeSets p)[A], (nodeSets p)[B]], ∃ m : Nat, z = m ∧ m < 256 := fun z hz => by
        simp at hz
        rcases hz with rfl | rfl
        · exact hSB.byte _ (List.getElem_mem hA')
        · exact hSB.byte _ (List.getElem_mem hB')
      have hR10 : R w10 x67 [(nodeSets p)[A], (nodeSets p)[B]] := (hO10.rep (by intro z hz; simp at hz; rcases hz with rfl | rfl; exact hIA; exact hIB)).any
      refine call (elChoice_ok (good := p.edges) hSb (by simp) 2 (ch := ⟨none, 0, 0⟩) (pre := []) (by simp) (h.edges.ext hE210) hR10 (D := fun _ => False) (nil_at w10 _)) ?_
      rintro r68 bb w11 ⟨hE11, hm⟩
      have e1 : (([(nodeSets p)[A], (nodeSets p)[B]].drop ([] : List Int).length).map fun x => labsOf x.toNat) = listsAt (nodeSets p) [L[v][pi], L[x][y]] := by
        rw [hA, hB]
        simp [listsAt, hA', hB']
      rw [e1] at hm
      have hP : (fun c => decide (sortI c ∈ p.edges)) = nodeB2 p := rfl
      rw [hP, hps] at hm
      obtain ⟨_, hR68⟩ := hm
      have hE911 := hE10.trans hE11
      refine ⟨hE911, hE911, hE911, ?_⟩
      intro w12 hE12 _
      have hE912 := hE911.trans hE12
      have hzz := hE10.size_le
      have hz9 : w3.heap.size ≤ w9.heap.size := by have := hE9.size_le; omega
      have hz12 := hE912.size_le
      replace hE8 := hE8.ext hE912
      replace hL8 := hL8.ext hE912
      replace hR8 := hR8.ext hE912
      replace hR35 := hR35.ext hE912
      replace hR68 := hR68.ext hE12
      obtain ⟨ra, hra, hOa⟩ := hR8.at hv
      obtain ⟨rb, hrb, hOb⟩ := hR8.at hx
      have hns : ∀ k, out.v.ownBlock = some k → ¬ oB ra k := fun k hk h1 => hR8.block_ne (by decide) hra h1 hk
      have hns2 : ∀ k, out.v.ownBlock = some k → ¬ oB rb k := fun k hk h1 => hR8.block_ne (by decide) hrb h1 hk
      refine ⟨oB ra, ?_⟩
      refine ixID hR35 (i := 0) (by simp) fun q0 hd0 hc0 => ⟨fun hh => (by have := hss v ra hra _ hh; omega), LD_int hc0 ?_⟩
      refine hR8.ix hv fun pa' ra' hra' hOa' hca' hba' => ⟨hns _ hba', LD_sl hca' ?_⟩
      rw [hra] at hra'; cases hra'
      refine ixID hR35 (i := 1) (by simp) fun q0 hd0 hc0 => ⟨fun hh => (by have := hss v ra hra _ hh; omega), LD_int hc0 ⟨Chg.refl _ _, ?_⟩⟩
      refine hR68.ixI (i := 0) (by omega) fun q0 _ hc0 => ⟨Chg.refl _ _, LD_int hc0 ⟨Chg.refl _ _, ?_⟩⟩
      refine IX_own hOa' hpi rfl fun p1 hp1 => ?_
      obtain ⟨hxl, hyl, hst3⟩ := set2_two (i := pi) hv hx hy C[0] C[1]
      refine store1 hR8 hv hpi hra hp1 fun w13 hs13 hR13 => ?_
      intro w14 hE14 _
      have hE13 := hs13.ext0 hE8 fun k hk => (hOa'.blk k hk).1
      have hL13 := hL8.stepD hs13 fun b hb he => by have := hss v ra hra _ he; omega
      have hR35' := hR35.stepD hs13 fun b hb he => by have := hss v ra hra _ he; omega
      have hR68' := hR68.stepD hs13 fun b hb he => by
        have := hss v ra hra _ he
        rcases hb with hb | hb
        · exact hb
        · omega
      replace hE13 := hE13.ext hE14
      replace hL13 := hL13.ext hE14
      replace hR13 := hR13.ext hE14
      replace hR35' := hR35'.ext hE14
      replace hR68' := hR68'.ext hE14
      refine ⟨oB rb, ?_⟩
      refine ixID hR35' (i := 2) (by simp) fun q0 hd0 hc0 => ⟨fun hh => (by have := hss x rb hrb _ hh; omega), LD_int hc0 ?_⟩
      refine hR13.ix hxl fun pb' rb' hrb' hOb' hcb' hbb' => ⟨fun h1 => hR13.block_ne (by decide) hrb h1 hbb', LD_sl hcb' ?_⟩
      rw [hrb] at hrb'; cases hrb'
      refine ixID hR35' (i := 3) (by simp) fun q0 hd0 hc0 => ⟨fun hh => (by have := hss x rb hrb _ hh; omega), LD_int hc0 ⟨Chg.refl _ _, ?_⟩⟩
      refine hR68'.ixI (i := 1) (by omega) fun q0 _ hc0 => ⟨Chg.refl _ _, LD_int hc0 ⟨Chg.refl _ _, ?_⟩⟩
      refine IX_own hOb' hyl rfl fun p2 hp2 => store1 hR13 hxl hyl hrb hp2 fun w17 hs17 hR17 => ?_
      rw [← hst3] at hR17
      refine IN_next (by omega) hi' ⟨hs17.ext0 hE13 (fun k hk => (hOb'.blk k hk).1), by have := hs13.size; have := hE14.size_le; have := hs17.size; omega, hL13.stepD hs17 (fun b hb he => by have := hss x rb hrb _ he; omega), by rw [hsn]; exact hR17⟩
    · have : i = (edgesOf n.ends).length := by omega
      subst this
      rw [List.take_length] at hR8 hMr hMI
      rw [pullN_all hg hLr hZr]
      exact ⟨hE.trans hE8, hR8.rep hMI⟩

theorem sPullNodeStep_ok {w : World} {c d a b e s : Sl} {p : Prob} {n : Net} {L : List (List Int)} (h : RProb w c d p) (hN : RNet w a b e n) (hl : R w s L) :
    Calls Tryz.prog F.s_PullNodeStep #[.agg #[.int .i64 p.labels, .int .i64 p.degree, c.v, d.v], .agg #[a.v, b.v, e.v], s.v] w (Ret [.at .sl, .at .bool] fun (r : Sl) (y : Bool) w' => Ext w w' ∧ ∃ m, R w' r m ∧ AnsG (PnAsked p n L) (pullN p (nodeSets p) L (edgesOf n.ends) L) [] m y) := by
  refine C_s_PullNodeStep ?_
  unfold V_s_PullNodeStep
  refine NEW_intro fun pp w1 hp1 hs1 hE1 hb1 => NEW_intro fun pn w2 hp2 hs2 hE2 hb2 => ?_
  have hE := hE1.trans hE2
  replace h := h.ext hE
  replace hN := hN.ext hE
  replace hl := hl.ext hE
  replace hb1 := hb1.ext hE2
  have hni : ∀ {w' : World}, R w' (⟨none, 0, 0⟩ : Sl) ([] : List (List Int)) := fun {w'} => (OutM.nil 0 w').rep
  refine LD_iiss hb1 ?_
  refine call (sNodeStep_ok h) ?_
  rintro x y z u S r w3 ⟨hE3, hr⟩
  replace hE := hE.ext hE3
  replace h := h.ext hE3
  replace hN := hN.ext hE3
  replace hl := hl.ext hE3
  replace hb1 := hb1.ext hE3
  replace hb2 := hb2.ext hE3
  refine NEW_ST (one4p _ _ _ _) rfl fun pq w4 hp4 hE4 hb4 => ?_
  replace hE := hE.ext hE4
  replace h := h.ext hE4
  replace hN := hN.ext hE4
  replace hl := hl.ext hE4
  replace hb1 := hb1.ext hE4
  replace hb2 := hb2.ext hE4
  rcases hr with ⟨rfl, hgd, rfl, rfl, hP⟩ | ⟨rfl, hn'⟩
  · replace hP := hP.ext hE4
    refine cond_not (fun hf => by cases hf) (fun _ => LD_iiss hb4 (LD_box3 hb2 ?_))
    refine call (prAsked_ok (p := nodeP p) hP.prob hN hl) ?_
    rintro t w6 ⟨ht, hE6⟩
    replace hE := hE.ext hE6
    replace h := h.ext hE6
    replace hN := hN.ext hE6
    replace hl := hl.ext hE6
    replace hb1 := hb1.ext hE6
    replace hb2 := hb2.ext hE6
    replace hb4 := hb4.ext hE6
    replace hP := hP.ext hE6
    refine cond_not (fun hfa => ⟨hE, [], hni, .no fun hA => (by rw [ht.2 ⟨node_made hgd, hA.net, hA.lab⟩] at hfa; cases hfa)⟩) (fun ht2 => LD_iiss hb4 (LD_box3 hb2 ?_))
    have hA := ht.1 ht2
    refine call (prIs_ok (p := nodeP p) hP.prob hA.fin hN hl) ?_
    rintro v w7 ⟨hv, hE7⟩
    replace hE := hE.ext hE7
    replace h := h.ext hE7
    replace hN := hN.ext hE7
    replace hl := hl.ext hE7
    replace hb1 := hb1.ext hE7
    replace hb2 := hb2.ext hE7
    replace hP := hP.ext hE7
    refine cond_not (fun hfa => ⟨hE, [], hni, .no fun hA => (by rw [hv.2 hA.clean] at hfa; cases hfa)⟩) (fun ht3 => LD_box3 hb2 ?_)
    have hCl := hv.1 ht3
    refine call (elStubless_ok hN hA.good) ?_
    rintro q w8 ⟨hq, hE8⟩
    replace hE := hE.ext hE8
    replace h := h.ext hE8
    replace hN := hN.ext hE8
    replace hl := hl.ext hE8
    replace hb1 := hb1.ext hE8
    replace hb2 := hb2.ext hE8
    replace hP := hP.ext hE8
    refine cond_not (fun hfa => ⟨hE, [], hni, .no fun hA => (by rw [hq.2 hA.stub] at hfa; cases hfa)⟩) (fun ht4 => LD_iiss hb1 (LD_box3 hb2 ?_))
    refine call (elPullNode_ok h hgd hP.sets.any hN hA.good hl hA.lab hCl) ?_
    rintro r w9 ⟨hE9, hO⟩
    exact ⟨hE.trans hE9, _, hO, .yes ⟨hgd, hA.good, hq.1 ht4, hA.lab, hCl⟩⟩
  · refine cond_not (fun _ => ⟨hE, [], hni, .no fun hA => hn' hA.good⟩) (fun ht => by cases ht)

end Go.Proofs.YtlmiookpmneicaaGreat
end

section
/- The walk of the law FnExactPullNodeStep. -/
namespace Go.Proofs.YtlmiookpmneicaaGreat
open Go.GX Go.RowKit
set_option maxRecDepth 100000
set_option maxHeartbeats 800000

theorem fnExactPullNodeStep_ok {w : World} {c0 e0 : Sl} {q0 : Prob} {a1 b1 c1 : Sl} {n1 : Net} {s2 : Sl} {l2 : List (List Int)} (h0 : RProb w c0 e0 q0) (h1 : RNet w a1 b1 c1 n1) (h2 : R w s2 l2) :
    Calls Tryz.prog F.l_FnExactPullNodeStep #[.agg #[.int .i64 q0.labels, .int .i64 q0.degree, c0.v, e0.v], .agg #[a1.v, b1.v, c1.v], s2.v] w (Ret [.at .bool] fun (x : Bool) w' => x = true ∧ Ext w w') := by
  refine C_l_FnExactPullNodeStep ?_
  unfold V_l_FnExactPullNodeStep
  refine NEW_intro fun p0 u0 hp0 hs0 hA0 hb0 => ?_
  have hE := hA0
  replace h0 := h0.ext hA0
  replace h1 := h1.ext hA0
  replace h2 := h2.ext hA0
  refine NEW_intro fun p1 u1 hp1 hs1 hA1 hb1 => ?_
  replace hE := hE.ext hA1
  replace h0 := h0.ext hA1
  replace h1 := h1.ext hA1
  replace h2 := h2.ext hA1
  replace hb0 := hb0.ext hA1
  refine LD_iiss hb0 ?_
  refine call (szProblem_ok h0 1048576 (by omega) (by omega)) ?_
  rintro z0 x0 ⟨hz0, hB0⟩
  replace hE := hE.ext hB0
  replace h0 := h0.ext hB0
  replace h1 := h1.ext hB0
  replace h2 := h2.ext hB0
  replace hb0 := hb0.ext hB0
  replace hb1 := hb1.ext hB0
  refine cond_dec (fun _ => ⟨rfl, hE⟩) (fun hzl0 => ?_)
  have hS0 := (hz0 (by omega)).1
  have hzz0 := (hz0 (by omega)).2
  refine LD_box3 hb1 ?_
  refine call (szNetwork_at h1 z0 (by omega) (by omega)) ?_
  rintro z1 x1 ⟨hz1, hB1⟩
  replace hE := hE.ext hB1
  replace h0 := h0.ext hB1
  replace h1 := h1.ext hB1
  replace h2 := h2.ext hB1
  replace hb0 := hb0.ext hB1
  replace hb1 := hb1.ext hB1
  refine cond_dec (fun _ => ⟨rfl, hE⟩) (fun hzl1 => ?_)
  have hS1 := (hz1 (by omega)).1
  have hzz1 := (hz1 (by omega)).2
  refine call (szIntSS_ok h2 z1 (by omega) (by omega)) ?_
  rintro z2 _ ⟨hz2, rfl⟩
  refine cond_dec (fun _ => ⟨rfl, hE⟩) (fun hzl2 => ?_)
  obtain ⟨hzz2, hza2, hzb2⟩ := hz2 (by omega)
  have hS2 : SmallM l2 := ⟨by omega, fun r hr => by have := hzb2 r hr; omega⟩
  intro wS hGS _
  replace hE := hE.ext hGS
  replace h0 := h0.ext hGS
  replace h1 := h1.ext hGS
  replace h2 := h2.ext hGS
  replace hb0 := hb0.ext hGS
  replace hb1 := hb1.ext hGS
  have hReg := Ext.refl wS
  refine LD_iiss hb0 (LD_box3 hb1 ?_)
  refine call (toProblem_ok h0 hS0) ?_
  rintro _ _ zs0 us0 ws0 ⟨rfl, rfl, hEs0, hNs0⟩
  replace hE := hE.ext hEs0
  replace h0 := h0.ext hEs0
  replace h1 := h1.ext hEs0
  replace h2 := h2.ext hEs0
  replace hb0 := hb0.ext hEs0
  replace hb1 := hb1.ext hEs0
  replace hReg := hReg.ext hEs0
  refine ⟨hReg, ?_⟩
  refine call (toNetwork_ok h1 hS1) ?_
  rintro xs1 ys1 zs1 ws1 ⟨hEs1, hNs1⟩
  replace hE := hE.ext hEs1
  replace h0 := h0.ext hEs1
  replace h1 := h1.ext hEs1
  replace h2 := h2.ext hEs1
  replace hb0 := hb0.ext hEs1
  replace hb1 := hb1.ext hEs1
  replace hReg := hReg.ext hEs1
  replace hNs0 := hNs0.ext hEs1
  refine ⟨hReg, ?_⟩
  refine call (toIntSS_own h2 hS2.1 hS2.2) ?_
  rintro ss2 ws2 ⟨hEs2, hOs2⟩
  replace hE := hE.ext hEs2
  replace h0 := h0.ext hEs2
  replace h1 := h1.ext hEs2
  replace h2 := h2.ext hEs2
  replace hb0 := hb0.ext hEs2
  replace hb1 := hb1.ext hEs2
  replace hReg := hReg.ext hEs2
  replace hNs0 := hNs0.ext hEs2
  replace hNs1 := hNs1.ext hEs2
  have hRs2 := hOs2.rep (flat_okII h2)
  refine ⟨hReg, ?_⟩
  refine call (sPullNodeStep_ok hNs0 hNs1 hRs2) ?_
  rintro r10 r11 wA ⟨hCA, r1L0, hL10, hA1⟩
  replace hE := hE.ext hCA
  replace h0 := h0.ext hCA
  replace h1 := h1.ext hCA
  replace h2 := h2.ext hCA
  replace hb0 := hb0.ext hCA
  replace hb1 := hb1.ext hCA
  replace hReg := hReg.ext hCA
  replace hNs0 := hNs0.ext hCA
  replace hNs1 := hNs1.ext hCA
  replace hRs2 := hRs2.ext hCA
  refine ⟨hReg, ?_⟩
  refine ⟨hReg, ?_⟩
  refine ⟨hReg, ?_⟩
  have hX := Ext.refl wA
  refine LD_iiss (hb0.ext hX) ?_
  have hlo0 := hX.size_le
  refine call (toProblem_own (h0.ext hX) hS0) ?_
  rintro _ _ zi0 ui0 wi0 ⟨rfl, rfl, hEi0, mid0, top0, hOP0⟩
  have hls0 := hEi0.size_le
  replace hX := hX.ext hEi0
  have hM0 := hOP0.mnodes
  have hMe0 := hOP0.medges
  have hlm0 := hOP0.lom
  have hmt0 := hOP0.mhi
  have htw0 := hOP0.top
  have hNi0 := hOP0.prob h0
  have hH0 := Ext.refl wi0
  refine NEW_ST (one4p _ _ _ _) rfl fun yi0 vi0 hqi0 hFi0 hc0 => ?_
  replace hX := hX.ext hFi0
  replace hM0 := hM0.ext hFi0
  replace hMe0 := hMe0.ext hFi0
  replace hNi0 := hNi0.ext hFi0
  replace hH0 := hH0.ext hFi0
  refine LD_box3 (hb1.ext hX) ?_
  have hlp1_0 := hH0.size_le
  have hlo1 := hX.size_le
  refine call (toNetwork_own (h1.ext hX) hS1) ?_
  rintro xi1 yi1 zi1 wi1 ⟨hEi1, hON1⟩
  have hls1 := hEi1.size_le
  replace hX := hX.ext hEi1
  replace hM0 := hM0.ext hEi1
  replace hMe0 := hMe0.ext hEi1
  replace hNi0 := hNi0.ext hEi1
  replace hH0 := hH0.ext hEi1
  replace hc0 := hc0.ext hEi1
  have hM1 := hON1.mnet hS1
  have hNi1 := hON1.net h1
  have hH1 := Ext.refl wi1
  refine NEW_ST (one3 _ _ _) rfl fun qi1 vi1 hqi1 hFi1 hc1 => ?_
  replace hX := hX.ext hFi1
  replace hM0 := hM0.ext hFi1
  replace hMe0 := hMe0.ext hFi1
  replace hNi0 := hNi0.ext hFi1
  replace hH0 := hH0.ext hFi1
  replace hc0 := hc0.ext hFi1
  replace hM1 := hM1.ext hFi1
  replace hNi1 := hNi1.ext hFi1
  replace hH1 := hH1.ext hFi1
  have hlp2_0 := hH0.size_le
  have hlp2_1 := hH1.size_le
  have hlo2 := hX.size_le
  refine call (toIntSS_own (h2.ext hX) hS2.1 hS2.2) ?_
  rintro si2 wi2 ⟨hEi2, hOi2⟩
  have hls2 := hEi2.size_le
  replace hX := hX.ext hEi2
  replace hM0 := hM0.ext hEi2
  replace hMe0 := hMe0.ext hEi2
  replace hNi0 := hNi0.ext hEi2
  replace hH0 := hH0.ext hEi2
  replace hc0 := hc0.ext hEi2
  replace hM1 := hM1.ext hEi2
  replace hNi1 := hNi1.ext hEi2
  replace hH1 := hH1.ext hEi2
  replace hc1 := hc1.ext hEi2
  have hRi2 := hOi2.rep (flat_okII h2)
  have hM2 := mintss_of hOi2 hS2.1 hS2.2
  have hH2 := Ext.refl wi2
  refine LD_iiss hc0 ?_
  refine LD_box3 hc1 ?_
  have hhi0 := hH0.size_le
  have hhi1 := hH1.size_le
  have hhi2 := hH2.size_le
  have hXD := hX.size_le
  refine call (PullNodeStep_ok hNi0 hNi1 hRi2 hS0 hS1 hS2) ?_
  rintro r20 r21 wE ⟨hCE, r2L0, hG20, hA2⟩
  replace hX := hX.ext hCE
  replace hM0 := hM0.ext hCE
  replace hMe0 := hMe0.ext hCE
  replace hNi0 := hNi0.ext hCE
  replace hH0 := hH0.ext hCE
  replace hc0 := hc0.ext hCE
  replace hM1 := hM1.ext hCE
  replace hNi1 := hNi1.ext hCE
  replace hH1 := hH1.ext hCE
  replace hc1 := hc1.ext hCE
  replace hRi2 := hRi2.ext hCE
  replace hM2 := hM2.ext hCE
  replace hH2 := hH2.ext hCE
  obtain ⟨rfl, rfl⟩ := hA1.eq hA2
  refine call (eqIntSS_ok hG20.rep (hL10.ext hX)) ?_
  rintro _ we1 ⟨rfl, hK⟩
  replace hX := hX.ext hK
  replace hM0 := hM0.ext hK
  replace hMe0 := hMe0.ext hK
  replace hNi0 := hNi0.ext hK
  replace hH0 := hH0.ext hK
  replace hc0 := hc0.ext hK
  replace hM1 := hM1.ext hK
  replace hNi1 := hNi1.ext hK
  replace hH1 := hH1.ext hK
  replace hc1 := hc1.ext hK
  replace hRi2 := hRi2.ext hK
  replace hM2 := hM2.ext hK
  replace hH2 := hH2.ext hK
  replace hG20 := hG20.ext hK
  refine cond_f (by simp) ?_
  refine cond_f (by simp) ?_
  unfold V_l_FnExactPullNodeStep_k4
  intro m0 hG0 _
  replace hX := hX.ext hG0
  replace hM0 := hM0.ext hG0
  replace hMe0 := hMe0.ext hG0
  replace hNi0 := hNi0.ext hG0
  replace hH0 := hH0.ext hG0
  replace hc0 := hc0.ext hG0
  replace hM1 := hM1.ext hG0
  replace hNi1 := hNi1.ext hG0
  replace hH1 := hH1.ext hG0
  replace hc1 := hc1.ext hG0
  replace hRi2 := hRi2.ext hG0
  replace hM2 := hM2.ext hG0
  replace hH2 := hH2.ext hG0
  replace hG20 := hG20.ext hG0
  refine LD_iiss hc0 (LD_iiss (hb0.ext hX) ?_)
  refine ⟨Ext.refl _, call (toProblem_ok (h0.ext hX) hS0) ?_⟩
  rintro _ _ ze0 ue0 we0' ⟨rfl, rfl, hHe0, hNe0⟩
  replace hX := hX.ext hHe0
  replace hM0 := hM0.ext hHe0
  replace hMe0 := hMe0.ext hHe0
  replace hNi0 := hNi0.ext hHe0
  replace hH0 := hH0.ext hHe0
  replace hc0 := hc0.ext hHe0
  replace hM1 := hM1.ext hHe0
  replace hNi1 := hNi1.ext hHe0
  replace hH1 := hH1.ext hHe0
  replace hc1 := hc1.ext hHe0
  replace hRi2 := hRi2.ext hHe0
  replace hM2 := hM2.ext hHe0
  replace hH2 := hH2.ext hHe0
  replace hG20 := hG20.ext hHe0
  refine ⟨hHe0, call (eqProblem_ok hNi0 hNe0) ?_⟩
  rintro _ wf0 ⟨rfl, hK0⟩
  replace hX := hX.ext hK0
  replace hM0 := hM0.ext hK0
  replace hMe0 := hMe0.ext hK0
  replace hNi0 := hNi0.ext hK0
  replace hH0 := hH0.ext hK0
  replace hc0 := hc0.ext hK0
  replace hM1 := hM1.ext hK0
  replace hNi1 := hNi1.ext hK0
  replace hH1 := hH1.ext hK0
  replace hc1 := hc1.ext hK0
  replace hRi2 := hRi2.ext hK0
  replace hM2 := hM2.ext hK0
  replace hH2 := hH2.ext hK0
  replace hG20 := hG20.ext hK0
  refine ⟨hHe0.trans hK0, cond_f (by simp) ?_⟩
  intro m1 hG1 _
  replace hX := hX.ext hG1
  replace hM0 := hM0.ext hG1
  replace hMe0 := hMe0.ext hG1
  replace hNi0 := hNi0.ext hG1
  replace hH0 := hH0.ext hG1
  replace hc0 := hc0.ext hG1
  replace hM1 := hM1.ext hG1
  replace hNi1 := hNi1.ext hG1
  replace hH1 := hH1.ext hG1
  replace hc1 := hc1.ext hG1
  replace hRi2 := hRi2.ext hG1
  replace hM2 := hM2.ext hG1
  replace hH2 := hH2.ext hG1
  replace hG20 := hG20.ext hG1
  refine LD_box3 hc1 (LD_box3 (hb1.ext hX) ?_)
  refine ⟨Ext.refl _, call (toNetwork_ok (h1.ext hX) hS1) ?_⟩
  rintro xe1 ye1 ze1 we1' ⟨hHe1, hNe1⟩
  replace hX := hX.ext hHe1
  replace hM0 := hM0.ext hHe1
  replace hMe0 := hMe0.ext hHe1
  replace hNi0 := hNi0.ext hHe1
  replace hH0 := hH0.ext hHe1
  replace hc0 := hc0.ext hHe1
  replace hM1 := hM1.ext hHe1
  replace hNi1 := hNi1.ext hHe1
  replace hH1 := hH1.ext hHe1
  replace hc1 := hc1.ext hHe1
  replace hRi2 := hRi2.ext hHe1
  replace hM2 := hM2.ext hHe1
  replace hH2 := hH2.ext hHe1
  replace hG20 := hG20.ext hHe1
  refine ⟨hHe1, call (eqNetwork_ok hNi1 hNe1) ?_⟩
  rintro _ wf1 ⟨rfl, hK1⟩
  replace hX := hX.ext hK1
  replace hM0 := hM0.ext hK1
  replace hMe0 := hMe0.ext hK1
  replace hNi0 := hNi0.ext hK1
  replace hH0 := hH0.ext hK1
  replace hc0 := hc0.ext hK1
  replace hM1 := hM1.ext hK1
  replace hNi1 := hNi1.ext hK1
  replace hH1 := hH1.ext hK1
  replace hc1 := hc1.ext hK1
  replace hRi2 := hRi2.ext hK1
  replace hM2 := hM2.ext hK1
  replace hH2 := hH2.ext hK1
  replace hG20 := hG20.ext hK1
  refine ⟨hHe1.trans hK1, cond_f (by simp) ?_⟩
  refine call (toIntSS_own (h2.ext hX) hS2.1 hS2.2) ?_
  rintro se2 we2' ⟨hHe2, hOe2⟩
  replace hX := hX.ext hHe2
  replace hM0 := hM0.ext hHe2
  replace hMe0 := hMe0.ext hHe2
  replace hNi0 := hNi0.ext hHe2
  replace hH0 := hH0.ext hHe2
  replace hc0 := hc0.ext hHe2
  replace hM1 := hM1.ext hHe2
  replace hNi1 := hNi1.ext hHe2
  replace hH1 := hH1.ext hHe2
  replace hc1 := hc1.ext hHe2
  replace hRi2 := hRi2.ext hHe2
  replace hM2 := hM2.ext hHe2
  replace hH2 := hH2.ext hHe2
  replace hG20 := hG20.ext hHe2
  refine call (eqIntSS_ok hRi2 (hOe2.rep (flat_okII h2))) ?_
  rintro _ wf2 ⟨rfl, hK2⟩
  replace hX := hX.ext hK2
  replace hM0 := hM0.ext hK2
  replace hMe0 := hMe0.ext hK2
  replace hNi0 := hNi0.ext hK2
  replace hH0 := hH0.ext hK2
  replace hc0 := hc0.ext hK2
  replace hM1 := hM1.ext hK2
  replace hNi1 := hNi1.ext hK2
  replace hH1 := hH1.ext hK2
  replace hc1 := hc1.ext hK2
  replace hRi2 := hRi2.ext hK2
  replace hM2 := hM2.ext hK2
  replace hH2 := hH2.ext hK2
  replace hG20 := hG20.ext hK2
  refine cond_f (by simp) ?_
  refine LD_iiss hc0 ?_
  refine call (markProblem_ok hM0 hMe0 hlm0 hmt0 (by have := hH0.size_le; omega) _ (by omega) (by omega)) ?_
  rintro k0 wm0 ⟨hk0, hkk0, hSh, hCh⟩
  have hzk0 := hCh.size
  replace hX := hCh.extR hX (by omega)
  replace hG20 := hG20.chgR hCh (by omega)
  replace hM1 := hM1.chg hSh hCh (by omega)
  replace hc1 := hc1.chg hCh (by omega)
  replace hM2 := hM2.chg hSh hCh (by omega)
  refine LD_box3 hc1 ?_
  refine call (markNetwork_at _ (by omega) (by omega) hM1 (by have := hH1.size_le; omega)) ?_
  rintro k1 wm1 ⟨hk1, hkk1, hSh, hCh⟩
  have hzk1 := hCh.size
  replace hX := hCh.extR hX (by omega)
  replace hG20 := hG20.chgR hCh (by omega)
  replace hM2 := hM2.chg hSh hCh (by omega)
  refine call (markIntSS_ok hM2 _ (by omega) (by omega)) ?_
  rintro k2 wm2 ⟨hk2, hkk2, hSh, hCh⟩
  have hzk2 := hCh.size
  replace hX := hCh.extR hX (by omega)
  replace hG20 := hG20.chgR hCh (by omega)
  refine cond_df (by omega) ?_
  refine call (eqIntSS_ok hG20.rep (hL10.ext hX)) ?_
  rintro _ we2 ⟨rfl, hK⟩
  replace hX := hX.ext hK
  replace hG20 := hG20.ext hK
  refine cond_f (by simp) ?_
  refine cond_f (by simp) ?_
  unfold V_l_FnExactPullNodeStep_k9
  have hl0 := hG20.rows
  have hll0 := hG20.small
  have hpl0 := pre_le hll0 _ (Nat.le_refl _)
  refine call (markIntSS_out hG20 1 (by omega) (by omega)) ?_
  rintro mk0 wg0 ⟨hmk0, hMk0, hSt⟩
  replace hX := hSt.extB hX (by omega)
  refine call (heldIntSS_ok 1 hMk0 (by omega) (by omega) hl0 hll0) ?_
  rintro qh _ ⟨hqh, rfl⟩
  obtain rfl : mk0 = qh := (hqh.trans hmk0.symm).symm
  refine cond_df (by omega) ?_
  refine cond_f (by simp) ?_
  intro wT hGT _
  replace hX := hX.ext hGT
  replace hMk0 := hMk0.ext hGT
  have hReg := Ext.refl wT
  refine LD_iiss (hb0.ext hX) (LD_box3 (hb1.ext hX) ?_)
  refine call (toProblem_ok (h0.ext hX) hS0) ?_
  rintro _ _ zj0 uj0 wj0 ⟨rfl, rfl, hEj0, hNj0⟩
  replace hX := hX.ext hEj0
  replace hMk0 := hMk0.ext hEj0
  replace hReg := hReg.ext hEj0
  refine ⟨hReg, ?_⟩
  refine call (toNetwork_ok (h1.ext hX) hS1) ?_
  rintro xj1 yj1 zj1 wj1 ⟨hEj1, hNj1⟩
  replace hX := hX.ext hEj1
  replace hMk0 := hMk0.ext hEj1
  replace hReg := hReg.ext hEj1
  replace hNj0 := hNj0.ext hEj1
  refine ⟨hReg, ?_⟩
  refine call (toIntSS_own (h2.ext hX) hS2.1 hS2.2) ?_
  rintro sj2 wj2 ⟨hEj2, hOj2⟩
  replace hX := hX.ext hEj2
  replace hMk0 := hMk0.ext hEj2
  replace hReg := hReg.ext hEj2
  replace hNj0 := hNj0.ext hEj2
  replace hNj1 := hNj1.ext hEj2
  have hRj2 := hOj2.rep (flat_okII h2)
  refine ⟨hReg, ?_⟩
  refine call (PullNodeStep_ok hNj0 hNj1 hRj2 hS0 hS1 hS2) ?_
  rintro r30 r31 wH ⟨hCH, r3L0, hG30, hA3⟩
  replace hX := hX.ext hCH
  replace hMk0 := hMk0.ext hCH
  replace hReg := hReg.ext hCH
  replace hNj0 := hNj0.ext hCH
  replace hNj1 := hNj1.ext hCH
  replace hRj2 := hRj2.ext hCH
  refine ⟨hReg, ?_⟩
  refine ⟨hReg, ?_⟩
  refine ⟨hReg, ?_⟩
  obtain ⟨rfl, rfl⟩ := hA1.eq hA3
  refine call (eqIntSS_ok hG30.rep (hL10.ext hX)) ?_
  rintro _ we3 ⟨rfl, hK⟩
  replace hX := hX.ext hK
  replace hMk0 := hMk0.ext hK
  replace hNj0 := hNj0.ext hK
  replace hNj1 := hNj1.ext hK
  replace hRj2 := hRj2.ext hK
  replace hG30 := hG30.ext hK
  refine cond_f (by simp) ?_
  refine cond_f (by simp) ?_
  refine call (heldIntSS_ok 1 hMk0 (by omega) (by omega) hl0 hll0) ?_
  rintro qh _ ⟨hqh, rfl⟩
  obtain rfl : mk0 = qh := (hqh.trans hmk0.symm).symm
  refine cond_df (by omega) ?_
  refine cond_f (by simp) ?_
  exact ⟨rfl, hE.trans hX⟩

end Go.Proofs.YtlmiookpmneicaaGreat
end

section
/- Labels pulled through the node step are a solution. -/
namespace Go.Proofs.YtlmiookpmneicaaGreat
open Go.GX Go.RowKit
set_option maxRecDepth 100000

theorem two2_of : ∀ {c : List Int} {ls : List (List Int)}, c.length = ls.length → (∀ i (h1 : i < c.length) (h2 : i < ls.length), c[i] ∈ ls[i]) → Two2 (fun x l => x ∈ l) c ls
  | [], [], _, _ => .nil
  | [], _ :: _, hl, _ => by simp at hl
  | _ :: _, [], hl, _ => by simp at hl
  | x :: c, l :: ls, hl, h => .cons (h 0 (by simp) (by simp)) (two2_of (by simpa using hl) fun i h1 h2 => h (i + 1) (by simpa using h1) (by simpa using h2))

theorem full_good {p : Prob} {l : List Int} (hne : l ≠ []) (hf : fullB p l = true) {c : List Int} (hc : Two2 (fun x l => x ∈ l) c (l.map fun m => labsOf m.toNat)) : nodeB p c = true := by
  cases l with
  | nil => exact absurd rfl hne
  | cons x r =>
    rw [List.map_cons] at hc
    cases hc with
    | cons hb hc' =>
      rename_i b c'
      have h1 := fullB_iff.1 hf x (by simp)
      rw [List.erase_cons_head] at h1
      obtain ⟨a, rfl, ha, hbit⟩ := mem_labsOf.1 hb
      rw [← h1] at hbit
      unfold complM at hbit
      rw [Int.toNat_natCast, testBit_maskOf, Bool.and_eq_true, List.all_eq_true] at hbit
      have h2 := hbit.2 c' (mem_prodL.2 hc')
      have h3 : (c' ++ [(a : Int)]).Perm ((a : Int) :: c') := List.perm_append_comm
      rwa [nodeB_perm h3] at h2

/-- A node configuration of sets: all choices are node configurations. -/
theorem own_good {p : Prob} (hg : PGood p) {r c : List Int} (h : sortI r ∈ ownOf (nodeFull p) p.degree.toNat) (hc : Two2 (fun x l => x ∈ l) c (listsAt (nodeSets p) r)) : nodeB p c = true := by
  have hd := hg.deg
  have h1 := (List.mem_filter.1 h).2
  rw [List.contains_iff_mem] at h1
  obtain ⟨l, hl, hln⟩ := List.mem_map.1 h1
  have hS := nodeFull_conf p l hl
  have hf := (mem_nodeFull.1 hl).2
  have hne : l ≠ [] := by rintro rfl; have := hS.len; simp at this; omega
  have hp : (l.map fun s => (((nodeSets p).idxOf s : Nat) : Int)).Perm r := by
    have e : sortI (l.map fun s => (((nodeSets p).idxOf s : Nat) : Int)) = sortI r := hln
    exact (sortI_perm _).symm.trans (e ▸ sortI_perm r)
  have hmap : listsAt (nodeSets p) (l.map fun s => (((nodeSets p).idxOf s : Nat) : Int)) = l.map fun m => labsOf m.toNat := by
    unfold listsAt
    rw [List.map_map]
    apply List.map_congr_left
    intro y hy
    have hyS : y ∈ nodeSets p := (mem_setsOf (node_byte hg)).2 ⟨l, hl, hy⟩
    show labsOf ((nodeSets p).getD (((nodeSets p).idxOf y : Nat) : Int).toNat 0).toNat = _
    rw [Int.toNat_natCast, List.getD_eq_getElem?_getD, List.getElem?_eq_getElem (List.idxOf_lt_length_of_mem hyS)]
    simp
  have hpl : (listsAt (nodeSets p) r).Perm (l.map fun m => labsOf m.toNat) := by
    rw [← hmap]
    exact hp.symm.map _
  obtain ⟨c', hc', hcc⟩ := forall₂_perm hpl hc
  rw [nodeB_perm hcc]
  exact full_good hne hf hc'

/-! ### One edge at each end -/

theorem edge_full {n : Net} (hg : Good n) {q : Edge} (h : q ∈ edgesOf n.ends) : ∃ v i x y : Nat, q = ((v : Int), (i : Int), (x : Int), (y : Int)) ∧ port n.ends v i = some ((x : Int), (y : Int)) ∧ port n.ends x y = some ((v : Int), (i : Int)) ∧ isFirst v i ((x : Int), (y : Int)) = true := by
  obtain ⟨v, i, e, he, hf, rfl⟩ := mem_edgesOf.1 h
  obtain ⟨hv, hi, hee⟩ := port_some he
  obtain ⟨x, y, hxy, hx, hb⟩ := hg.far hv hi
  rw [hee] at hxy
  subst hxy
  exact ⟨v, i, x, y, rfl, he, hb, hf⟩

theorem first_iff {v i x y : Nat} : isFirst v i ((x : Int), (y : Int)) = true ↔ v < x ∨ (v = x ∧ i ≤ y) := by
  unfold isFirst
  simp only [Bool.or_eq_true, Bool.and_eq_true, decide_eq_true_eq, beq_iff_eq]
  omega

theorem hit_one {n : Net} (hg : Good n) {q q' : Edge} (h : q ∈ edgesOf n.ends) (h' : q' ∈ edgesOf n.ends) {u j : Nat} (hh : Hits q u j) (hh' : Hits q' u j) : q' = q := by
  obtain ⟨v, i, x, y, rfl, hp, hb, hf⟩ := edge_full hg h
  obtain ⟨v', i', x', y', rfl, hp', hb', hf'⟩ := edge_full hg h'
  rw [first_iff] at hf hf'
  unfold Hits at hh hh'
  simp only [Int.toNat_natCast] at hh hh'
  have fin : v = v' → i = i' → x = x' → y = y' → ((v' : Int), (i' : Int), (x' : Int), (y' : Int)) = ((v : Int), (i : Int), (x : Int), (y : Int)) := by rintro rfl rfl rfl rfl; rfl
  have inj : ∀ {a b c d : Nat}, some ((a : Int), (b : Int)) = some ((c : Int), (d : Int)) → a = c ∧ b = d := fun he => by
    have := Option.some.inj he
    simp only [Prod.mk.injEq] at this
    omega
  rcases hh with ⟨rfl, rfl⟩ | ⟨rfl, rfl⟩
  · rcases hh' with ⟨rfl, rfl⟩ | ⟨rfl, rfl⟩
    · obtain ⟨h1, h2⟩ := inj (hp.symm.trans hp')
      exact fin rfl rfl h1 h2
    · obtain ⟨h1, h2⟩ := inj (hp.symm.trans hb')
      exact fin (by omega) (by omega) (by omega) (by omega)
  · rcases hh' with ⟨rfl, rfl⟩ | ⟨rfl, rfl⟩
    · obtain ⟨h1, h2⟩ := inj (hb.symm.trans hp')
      exact fin (by omega) (by omega) (by omega) (by omega)
    · obtain ⟨h1, h2⟩ := inj (hb.symm.trans hb')
      exact fin h1 h2 rfl rfl

def cellN (p : Prob) (S : List Int) (L : List (List Int)) (q : Edge) (u j : Nat) : Int := if q.2.2.1.toNat = u ∧ q.2.2.2.toNat = j then (pairN p S L q).getD 1 0 else (pairN p S L q).getD 0 0

theorem at2_stepN {p : Prob} {S : List Int} {L M : List (List Int)} {E : Ends} (hM : SameRows E M) {u j : Nat} (hu : u < E.length) (hj : j < (E.getD u []).length) (q : Edge) : at2 (stepN p S L M q) u j = if q.2.2.1.toNat = u ∧ q.2.2.2.toNat = j then (pairN p S L q).getD 1 0 else if q.1.toNat = u ∧ q.2.1.toNat = j then (pairN p S L q).getD 0 0 else at2 M u j := by
  unfold stepN
  rw [at2_set2 (set2_rows hM _ _ _) hu hj, at2_set2 hM hu hj]

theorem pullN_keep {p : Prob} {S : List Int} {L : List (List Int)} {E : Ends} {u j : Nat} (hu : u < E.length) (hj : j < (E.getD u []).length) : ∀ (l : List Edge) {M : List (List Int)}, SameRows E M → (∀ q ∈ l, ¬ Hits q u j) → at2 (pullN p S L l M) u j = at2 M u j
  | [], _, _, _ => rfl
  | q :: l, M, hM, h => by
    have h1 := pullN_keep (p := p) (S := S) (L := L) hu hj l (M := stepN p S L M q) (stepN_rows hM q) fun q' hq' => h q' (List.mem_cons_of_mem _ hq')
    have h2 := h q (by simp)
    unfold Hits at h2
    rw [not_or] at h2
    have h3 := at2_stepN (p := p) (S := S) (L := L) hM hu hj q
    rw [if_neg h2.2, if_neg h2.1] at h3
    exact h1.trans h3

theorem pullN_cell {p : Prob} {S : List Int} {L : List (List Int)} {E : Ends} {u j : Nat} (hu : u < E.length) (hj : j < (E.getD u []).length) {q : Edge} (hh : Hits q u j) : ∀ (l : List Edge) {M : List (List Int)}, SameRows E M → q ∈ l → (∀ q' ∈ l, Hits q' u j → q' = q) → at2 (pullN p S L l M) u j = cellN p S L q u j
  | [], _, _, hq, _ => by cases hq
  | q0 :: l, M, hM, hq, h => by
    show at2 (pullN p S L l (stepN p S L M q0)) u j = _
    by_cases hl : q ∈ l
    · exact pullN_cell hu hj hh l (stepN_rows hM q0) hl fun q' hq' => h q' (List.mem_cons_of_mem _ hq')
    · rcases List.mem_cons.1 hq with rfl | hq'
      · rw [pullN_keep hu hj l (stepN_rows hM q) fun q' hq' hh' => hl (h q' (List.mem_cons_of_mem _ hq') hh' ▸ hq'), at2_stepN hM hu hj]
        unfold cellN
        rcases hh with hh | hh
        · rw [if_pos hh]
        · rw [if_pos hh, if_pos hh]
      · exact absurd hq' hl

theorem pair_mem {p : Prob} {S : List Int} {L : List (List Int)} {E : Ends} (h : SomeN p S L E) {q : Edge} (hq : q ∈ edgesOf E) : (pairN p S L q).getD 0 0 ∈ labsOf (S.getD (at2 L q.1.toNat q.2.1.toNat).toNat 0).toNat ∧ (pairN p S L q).getD 1 0 ∈ labsOf (S.getD (at2 L q.2.2.1.toNat q.2.2.2.toNat).toNat 0).toNat ∧ nodeB2 p [(pairN p S L q).getD 0 0, (pairN p S L q).getD 1 0] = true := by
  obtain ⟨hP, e, he, hce⟩ := firstC_spec (pair_some h hq)
  rw [List.nil_append] at hce
  rw [hce] at hP ⊢
  have h2 := mem_prodL.1 he
  unfold endsP listsAt at h2
  simp only [List.map_cons, List.map_nil] at h2
  cases h2 with
  | cons h3 h4 =>
    cases h4 with
    | cons h5 h6 =>
      cases h6
      exact ⟨h3, h5, hP⟩

/-- What is pulled lies in the sets that the labels stand for. -/
theorem pullN_in {p : Prob} {n : Net} {L : List (List Int)} (hA : PnAsked p n L) {u j : Nat} (hu : u < n.ends.length) (hj : j < (n.ends.getD u []).length) : at2 (pullN p (nodeSets p) L (edgesOf n.ends) L) u j ∈ labsOf ((nodeSets p).getD (at2 L u j).toNat 0).toNat := by
  obtain ⟨q, hq, hh⟩ := covered hA.net hu hj
  rw [pullN_cell hu hj hh _ hA.lab.rows hq fun q' hq' hh' => hit_one hA.net hq hq' hh hh']
  have h1 := pair_mem (node_some hA.clean) hq
  unfold cellN
  by_cases h2 : q.2.2.1.toNat = u ∧ q.2.2.2.toNat = j
  · rw [if_pos h2]
    have := h1.2.1
    rwa [h2.1, h2.2] at this
  · rw [if_neg h2]
    rcases hh with hh | hh
    · have := h1.1
      rwa [hh.1, hh.2] at this
    · exact absurd hh h2

theorem pulled_lab {p : Prob} {n : Net} {L : List (List Int)} (hA : PnAsked p n L) : LabOk p n.ends (pullN p (nodeSets p) L (edgesOf n.ends) L) := by
  have hr := pullN_rows (p := p) (S := nodeSets p) (L := L) (edgesOf n.ends) hA.lab.rows
  refine ⟨hr, fun r hr' x hx => ?_⟩
  obtain ⟨u, hu, rfl⟩ := List.mem_iff_getElem.1 hr'
  obtain ⟨j, hj, rfl⟩ := List.mem_iff_getElem.1 hx
  have huE : u < n.ends.length := by rw [← hr.1]; exact hu
  have h1 := hr.2 u hu
  rw [rowD hu] at h1
  have hin := pullN_in hA huE (j := j) (by omega)
  rw [at2_get hu hj] at hin
  have huL : u < L.length := by rw [hA.lab.rows.1]; exact huE
  have h2 := hA.lab.rows.2 u huL
  have hjL : j < L[u].length := by rw [rowD huL] at h2; omega
  have hlab := hA.lab.labs _ (List.getElem_mem huL) _ (List.getElem_mem hjL)
  have e : (nodeP p).labels = ((nodeSets p).length : Nat) := rfl
  rw [at2_get huL hjL] at hin
  have hk : (L[u][j]).toNat < (nodeSets p).length := by omega
  have hg : (nodeSets p).getD (L[u][j]).toNat 0 = (nodeSets p)[(L[u][j]).toNat] := get_of hk
  rw [hg] at hin
  obtain ⟨l, hl, hxl⟩ := (mem_setsOf (node_byte hA.good.1)).1 (List.getElem_mem hk)
  have hv := (nodeFull_conf p l hl).vals _ hxl
  obtain ⟨a, ha, hal⟩ := dig_of (n := p.labels.toNat) (t := ((nodeSets p)[(L[u][j]).toNat]).toNat) (by omega) _ hin
  have hpl := hA.good.1.lab
  show 0 ≤ _ ∧ _ ≤ p.labels - 1
  omega

theorem pulled_clean {p : Prob} {n : Net} {L : List (List Int)} (hA : PnAsked p n L) : Clean p n.ends (pullN p (nodeSets p) L (edgesOf n.ends) L) := by
  have hr := pullN_rows (p := p) (S := nodeSets p) (L := L) (edgesOf n.ends) hA.lab.rows
  intro v hv
  have hvM : v < (pullN p (nodeSets p) L (edgesOf n.ends) L).length := by rw [hr.1]; exact hv
  have hvL : v < L.length := by rw [hA.lab.rows.1]; exact hv
  have h1 := hr.2 v hvM
  have h2 := hA.lab.rows.2 v hvL
  refine ⟨fun hB => ?_, fun k hB => ?_⟩
  · have hN := (hA.clean v hv).1
    have hd : ((L.getD v []).length : Int) = p.degree := by have := hB.1; omega
    have hok : NodeOk (nodeP p) (L.getD v []) := Classical.byContradiction fun hn => hN ⟨hd, hn⟩
    have hc : Two2 (fun x l => x ∈ l) ((pullN p (nodeSets p) L (edgesOf n.ends) L).getD v []) (listsAt (nodeSets p) (L.getD v [])) := by
      refine two2_of (by rw [listsAt_len]; omega) fun j hj1 hj2 => ?_
      have hin := pullN_in hA hv (j := j) (by omega)
      rw [listsAt_len] at hj2
      have e1 : at2 (pullN p (nodeSets p) L (edgesOf n.ends) L) v j = ((pullN p (nodeSets p) L (edgesOf n.ends) L).getD v [])[j] := get_of hj1
      have e2 : at2 L v j = (L.getD v [])[j] := get_of hj2
      rw [e1, e2] at hin
      simpa [listsAt] using hin
    exact hB.2 (nodeB_iff.1 (own_good hA.good.1 hok hc))
  · obtain ⟨hk, hf, hE⟩ := hB
    have hkE : k < n.ends[v].length := by rw [rowD hv] at hk; exact hk
    obtain ⟨x, y, hxy, hx, hb⟩ := hA.net.far hv hkE
    have he : endOf n.ends v k = ((x : Int), (y : Int)) := by unfold endOf; rw [endD hv hkE]; exact hxy
    rw [he] at hf hE
    have hp : port n.ends v k = some ((x : Int), (y : Int)) := by rw [port_get hv hkE, hxy]
    have hq : ((v : Int), (k : Int), (x : Int), (y : Int)) ∈ edgesOf n.ends := mem_edgesOf.2 ⟨v, k, ((x : Int), (y : Int)), hp, hf, rfl⟩
    have hns : ¬ (x = v ∧ y = k) := fun hh => hA.stub v k (by rw [hp, hh.1, hh.2])
    obtain ⟨_, hy, _⟩ := port_some hb
    have m := pair_mem (node_some hA.clean) hq
    have hh1 : Hits ((v : Int), (k : Int), (x : Int), (y : Int)) v k := .inl ⟨by simp, by simp⟩
    have hh2 : Hits ((v : Int), (k : Int), (x : Int), (y : Int)) x y := .inr ⟨by simp, by simp⟩
    have c1 := pullN_cell (p := p) (S := nodeSets p) (L := L) (M := L) hv hk hh1 _ hA.lab.rows hq fun q' hq' hh' => hit_one hA.net hq hq' hh1 hh'
    have c2 := pullN_cell (p := p) (S := nodeSets p) (L := L) (M := L) hx (by rw [rowD hx]; exact hy) hh2 _ hA.lab.rows hq fun q' hq' hh' => hit_one hA.net hq hq' hh2 hh'
    unfold cellN at c1 c2
    simp only [Int.toNat_natCast] at c1 c2 hE
    rw [if_neg hns] at c1
    rw [if_pos ⟨trivial, trivial⟩] at c2
    rw [c1, c2] at hE
    exact hE (edgeB_iff.1 m.2.2)

/-! ### A whole round -/

theorem ansG_cases {α : Type} {g : Prop} {x d y : α} {ok : Bool} (h : AnsG g x d y ok) : (g ∧ y = x ∧ ok = true) ∨ (¬ g ∧ y = d ∧ ok = false) := by
  by_cases hg : g
  · exact .inl ⟨hg, h.val hg, h.ok.2 hg⟩
  · refine .inr ⟨hg, h.non hg, ?_⟩
    cases ok with
    | false => rfl
    | true => exact absurd (h.ok.1 rfl) hg

structure PrAsked (p : Prob) (n : Net) (L : List (List Int)) : Prop where
  good : edGood p
  node : PnAsked (edgeP p) n L

def roundL (p : Prob) (n : Net) (L : List (List Int)) : List (List Int) := (pullN (edgeP p) (nodeSets (edgeP p)) L (edgesOf n.ends) L).map (pullRow p (edgeSets p))

theorem PullRound_ok {w : World} {c d a b e s : Sl} {p : Prob} {n : Net} {L : List (List Int)} (h : RProb w c d p) (hN : RNet w a b e n) (hl : R w s L) (hsp : SmallP p) (hn : Small n) (hsl : SmallM L) :
    Calls Tryz.prog F.i_PullRound #[.agg #[.int .i64 p.labels, .int .i64 p.degree, c.v, d.v], .agg #[a.v, b.v, e.v], s.v] w (Ret [.at .sl, .at .bool] fun (r : Sl) (y : Bool) w' => Ext w w' ∧ ∃ m, OutM w.heap.size w' r m ∧ AnsG (PrAsked p n L) (roundL p n L) [] m y) := by
  refine C_i_PullRound ?_
  unfold V_i_PullRound
  refine NEW_intro fun pp w1 hp1 hs1 hE1 hb1 => NEW_intro fun pn w2 hp2 hs2 hE2 hb2 => ?_
  have hE := hE1.trans hE2
  replace h := h.ext hE
  replace hN := hN.ext hE
  replace hl := hl.ext hE
  replace hb1 := hb1.ext hE2
  refine LD_iiss hb1 ?_
  refine call (EdgeStep_ok h hsp) ?_
  rintro x y z u S r w3 ⟨hE3, hr⟩
  replace hE := hE.ext hE3
  replace h := h.ext hE3
  replace hN := hN.ext hE3
  replace hl := hl.ext hE3
  replace hb1 := hb1.ext hE3
  replace hb2 := hb2.ext hE3
  refine NEW_ST (one4p _ _ _ _) rfl fun pq w4 hp4 hE4 hb4 => ?_
  replace hE := hE.ext hE4
  replace h := h.ext hE4
  replace hN := hN.ext hE4
  replace hl := hl.ext hE4
  replace hb1 := hb1.ext hE4
  replace hb2 := hb2.ext hE4
  rcases hr with ⟨rfl, hgd, rfl, rfl, hP⟩ | ⟨rfl, hn'⟩
  · replace hP := hP.ext hE4
    refine cond_not (fun hf => by cases hf) (fun _ => LD_iiss hb4 (LD_box3 hb2 ?_))
    refine call (PullNodeStep_ok (p := edgeP p) hP.prob hN hl (edge_small hgd) hn hsl) ?_
    rintro m ok w6 ⟨hE6, M, hM, hAn⟩
    replace hE := hE.ext hE6
    replace h := h.ext hE6
    replace hN := hN.ext hE6
    replace hl := hl.ext hE6
    replace hb1 := hb1.ext hE6
    replace hb2 := hb2.ext hE6
    rcases ansG_cases hAn with ⟨hA, rfl, rfl⟩ | ⟨hA, rfl, rfl⟩
    · refine cond_not (fun hf => by cases hf) (fun _ => LD_iiss hb1 (LD_box3 hb2 ?_))
      have hrows : (pullN (edgeP p) (nodeSets (edgeP p)) L (edgesOf n.ends) L).length ≤ 1048576 := hM.rows
      refine call (PullEdgeStep_ok h hN hM.rep hsp hn ⟨hM.rows, hM.small⟩) ?_
      rintro r ok w7 ⟨hE7, m', hO, hAm⟩
      have hPe : PeAsked p n (pullN (edgeP p) (nodeSets (edgeP p)) L (edgesOf n.ends) L) := ⟨hgd, hA.net, pulled_lab hA, pulled_clean hA⟩
      rcases ansG_cases hAm with ⟨_, rfl, rfl⟩ | ⟨hno, _, _⟩
      · exact ⟨hE.trans hE7, _, hO.low hE.size_le, .yes ⟨hgd, hA⟩⟩
      · exact absurd hPe hno
    · exact cond_not (fun _ => ⟨hE, [], OutM.nil _ _, .no fun hR => hA hR.node⟩) (fun ht => by cases ht)
  · exact cond_not (fun _ => ⟨hE, [], OutM.nil _ _, .no fun hR => hn' hR.good⟩) (fun ht => by cases ht)

theorem sPullRound_ok {w : World} {c d a b e s : Sl} {p : Prob} {n : Net} {L : List (List Int)} (h : RProb w c d p) (hN : RNet w a b e n) (hl : R w s L) :
    Calls Tryz.prog F.s_PullRound #[.agg #[.int .i64 p.labels, .int .i64 p.degree, c.v, d.v], .agg #[a.v, b.v, e.v], s.v] w (Ret [.at .sl, .at .bool] fun (r : Sl) (y : Bool) w' => Ext w w' ∧ ∃ m, R w' r m ∧ AnsG (PrAsked p n L) (roundL p n L) [] m y) := by
  refine C_s_PullRound ?_
  unfold V_s_PullRound
  refine NEW_intro fun pp w1 hp1 hs1 hE1 hb1 => NEW_intro fun pn w2 hp2 hs2 hE2 hb2 => ?_
  have hE := hE1.trans hE2
  replace h := h.ext hE
  replace hN := hN.ext hE
  replace hl := hl.ext hE
  replace hb1 := hb1.ext hE2
  have hni : ∀ {w' : World}, R w' (⟨none, 0, 0⟩ : Sl) ([] : List (List Int)) := fun {w'} => (OutM.nil 0 w').rep
  refine LD_iiss hb1 ?_
  refine call (sEdgeStep_ok h) ?_
  rintro x y z u S r w3 ⟨hE3, hr⟩
  replace hE := hE.ext hE3
  replace h := h.ext hE3
  replace hN := hN.ext hE3
  replace hl := hl.ext hE3
  replace hb1 := hb1.ext hE3
  replace hb2 := hb2.ext hE3
  refine NEW_ST (one4p _ _ _ _) rfl fun pq w4 hp4 hE4 hb4 => ?_
  replace hE := hE.ext hE4
  replace h := h.ext hE4
  replace hN := hN.ext hE4
  replace hl := hl.ext hE4
  replace hb1 := hb1.ext hE4
  replace hb2 := hb2.ext hE4
  rcases hr with ⟨rfl, hgd, rfl, rfl, hP⟩ | ⟨rfl, hn'⟩
  · replace hP := hP.ext hE4
    refine cond_not (fun hf => by cases hf) (fun _ => LD_iiss hb4 (LD_box3 hb2 ?_))
    refine call (sPullNodeStep_ok (p := edgeP p) hP.prob hN hl) ?_
    rintro m ok w6 ⟨hE6, M, hM, hAn⟩
    replace hE := hE.ext hE6
    replace h := h.ext hE6
    replace hN := hN.ext hE6
    replace hl := hl.ext hE6
    replace hb1 := hb1.ext hE6
    replace hb2 := hb2.ext hE6
    replace hP := hP.ext hE6
    rcases ansG_cases hAn with ⟨hA, rfl, rfl⟩ | ⟨hA, rfl, rfl⟩
    · refine cond_not (fun hf => by cases hf) (fun _ => LD_iiss hb1 ?_)
      have hlb := pulled_lab hA
      have hlen : (pullN (edgeP p) (nodeSets (edgeP p)) L (edgesOf n.ends) L).length ≤ 1048576 := by have := hlb.rows.1; have := hA.net.size.2; omega
      refine call (elPullEdge_ok h hgd.1 hP.sets.any (edge_sets hgd.1) hM (pull_rows hA.net hlb (pulled_clean hA)) hlen) ?_
      rintro r w7 ⟨hE7, hO⟩
      exact ⟨hE.trans hE7, _, hO, .yes ⟨hgd, hA⟩⟩
    · exact cond_not (fun _ => ⟨hE, [], hni, .no fun hR => hA hR.node⟩) (fun ht => by cases ht)
  · exact cond_not (fun _ => ⟨hE, [], hni, .no fun hR => hn' hR.good⟩) (fun ht => by cases ht)

end Go.Proofs.YtlmiookpmneicaaGreat
end

section
/- The walk of the law FnExactPullRound. -/
namespace Go.Proofs.YtlmiookpmneicaaGreat
open Go.GX Go.RowKit
set_option maxRecDepth 100000
set_option maxHeartbeats 800000

theorem fnExactPullRound_ok {w : World} {c0 e0 : Sl} {q0 : Prob} {a1 b1 c1 : Sl} {n1 : Net} {s2 : Sl} {l2 : List (List Int)} (h0 : RProb w c0 e0 q0) (h1 : RNet w a1 b1 c1 n1) (h2 : R w s2 l2) :
    Calls Tryz.prog F.l_FnExactPullRound #[.agg #[.int .i64 q0.labels, .int .i64 q0.degree, c0.v, e0.v], .agg #[a1.v, b1.v, c1.v], s2.v] w (Ret [.at .bool] fun (x : Bool) w' => x = true ∧ Ext w w') := by
  refine C_l_FnExactPullRound ?_
  unfold V_l_FnExactPullRound
  refine NEW_intro fun p0 u0 hp0 hs0 hA0 hb0 => ?_
  have hE := hA0
  replace h0 := h0.ext hA0
  replace h1 := h1.ext hA0
  replace h2 := h2.ext hA0
  refine NEW_intro fun p1 u1 hp1 hs1 hA1 hb1 => ?_
  replace hE := hE.ext hA1
  replace h0 := h0.ext hA1
  replace h1 := h1.ext hA1
  replace h2 := h2.ext hA1
  replace hb0 := hb0.ext hA1
  refine LD_iiss hb0 ?_
  refine call (szProblem_ok h0 1048576 (by omega) (by omega)) ?_
  rintro z0 x0 ⟨hz0, hB0⟩
  replace hE := hE.ext hB0
  replace h0 := h0.ext hB0
  replace h1 := h1.ext hB0
  replace h2 := h2.ext hB0
  replace hb0 := hb0.ext hB0
  replace hb1 := hb1.ext hB0
  refine cond_dec (fun _ => ⟨rfl, hE⟩) (fun hzl0 => ?_)
  have hS0 := (hz0 (by omega)).1
  have hzz0 := (hz0 (by omega)).2
  refine LD_box3 hb1 ?_
  refine call (szNetwork_at h1 z0 (by omega) (by omega)) ?_
  rintro z1 x1 ⟨hz1, hB1⟩
  replace hE := hE.ext hB1
  replace h0 := h0.ext hB1
  replace h1 := h1.ext hB1
  replace h2 := h2.ext hB1
  replace hb0 := hb0.ext hB1
  replace hb1 := hb1.ext hB1
  refine cond_dec (fun _ => ⟨rfl, hE⟩) (fun hzl1 => ?_)
  have hS1 := (hz1 (by omega)).1
  have hzz1 := (hz1 (by omega)).2
  refine call (szIntSS_ok h2 z1 (by omega) (by omega)) ?_
  rintro z2 _ ⟨hz2, rfl⟩
  refine cond_dec (fun _ => ⟨rfl, hE⟩) (fun hzl2 => ?_)
  obtain ⟨hzz2, hza2, hzb2⟩ := hz2 (by omega)
  have hS2 : SmallM l2 := ⟨by omega, fun r hr => by have := hzb2 r hr; omega⟩
  intro wS hGS _
  replace hE := hE.ext hGS
  replace h0 := h0.ext hGS
  replace h1 := h1.ext hGS
  replace h2 := h2.ext hGS
  replace hb0 := hb0.ext hGS
  replace hb1 := hb1.ext hGS
  have hReg := Ext.refl wS
  refine LD_iiss hb0 (LD_box3 hb1 ?_)
  refine call (toProblem_ok h0 hS0) ?_
  rintro _ _ zs0 us0 ws0 ⟨rfl, rfl, hEs0, hNs0⟩
  replace hE := hE.ext hEs0
  replace h0 := h0.ext hEs0
  replace h1 := h1.ext hEs0
  replace h2 := h2.ext hEs0
  replace hb0 := hb0.ext hEs0
  replace hb1 := hb1.ext hEs0
  replace hReg := hReg.ext hEs0
  refine ⟨hReg, ?_⟩
  refine call (toNetwork_ok h1 hS1) ?_
  rintro xs1 ys1 zs1 ws1 ⟨hEs1, hNs1⟩
  replace hE := hE.ext hEs1
  replace h0 := h0.ext hEs1
  replace h1 := h1.ext hEs1
  replace h2 := h2.ext hEs1
  replace hb0 := hb0.ext hEs1
  replace hb1 := hb1.ext hEs1
  replace hReg := hReg.ext hEs1
  replace hNs0 := hNs0.ext hEs1
  refine ⟨hReg, ?_⟩
  refine call (toIntSS_own h2 hS2.1 hS2.2) ?_
  rintro ss2 ws2 ⟨hEs2, hOs2⟩
  replace hE := hE.ext hEs2
  replace h0 := h0.ext hEs2
  replace h1 := h1.ext hEs2
  replace h2 := h2.ext hEs2
  replace hb0 := hb0.ext hEs2
  replace hb1 := hb1.ext hEs2
  replace hReg := hReg.ext hEs2
  replace hNs0 := hNs0.ext hEs2
  replace hNs1 := hNs1.ext hEs2
  have hRs2 := hOs2.rep (flat_okII h2)
  refine ⟨hReg, ?_⟩
  refine call (sPullRound_ok hNs0 hNs1 hRs2) ?_
  rintro r10 r11 wA ⟨hCA, r1L0, hL10, hA1⟩
  replace hE := hE.ext hCA
  replace h0 := h0.ext hCA
  replace h1 := h1.ext hCA
  replace h2 := h2.ext hCA
  replace hb0 := hb0.ext hCA
  replace hb1 := hb1.ext hCA
  replace hReg := hReg.ext hCA
  replace hNs0 := hNs0.ext hCA
  replace hNs1 := hNs1.ext hCA
  replace hRs2 := hRs2.ext hCA
  refine ⟨hReg, ?_⟩
  refine ⟨hReg, ?_⟩
  refine ⟨hReg, ?_⟩
  have hX := Ext.refl wA
  refine LD_iiss (hb0.ext hX) ?_
  have hlo0 := hX.size_le
  refine call (toProblem_own (h0.ext hX) hS0) ?_
  rintro _ _ zi0 ui0 wi0 ⟨rfl, rfl, hEi0, mid0, top0, hOP0⟩
  have hls0 := hEi0.size_le
  replace hX := hX.ext hEi0
  have hM0 := hOP0.mnodes
  have hMe0 := hOP0.medges
  have hlm0 := hOP0.lom
  have hmt0 := hOP0.mhi
  have htw0 := hOP0.top
  have hNi0 := hOP0.prob h0
  have hH0 := Ext.refl wi0
  refine NEW_ST (one4p _ _ _ _) rfl fun yi0 vi0 hqi0 hFi0 hc0 => ?_
  replace hX := hX.ext hFi0
  replace hM0 := hM0.ext hFi0
  replace hMe0 := hMe0.ext hFi0
  replace hNi0 := hNi0.ext hFi0
  replace hH0 := hH0.ext hFi0
  refine LD_box3 (hb1.ext hX) ?_
  have hlp1_0 := hH0.size_le
  have hlo1 := hX.size_le
  refine call (toNetwork_own (h1.ext hX) hS1) ?_
  rintro xi1 yi1 zi1 wi1 ⟨hEi1, hON1⟩
  have hls1 := hEi1.size_le
  replace hX := hX.ext hEi1
  replace hM0 := hM0.ext hEi1
  replace hMe0 := hMe0.ext hEi1
  replace hNi0 := hNi0.ext hEi1
  replace hH0 := hH0.ext hEi1
  replace hc0 := hc0.ext hEi1
  have hM1 := hON1.mnet hS1
  have hNi1 := hON1.net h1
  have hH1 := Ext.refl wi1
  refine NEW_ST (one3 _ _ _) rfl fun qi1 vi1 hqi1 hFi1 hc1 => ?_
  replace hX := hX.ext hFi1
  replace hM0 := hM0.ext hFi1
  replace hMe0 := hMe0.ext hFi1
  replace hNi0 := hNi0.ext hFi1
  replace hH0 := hH0.ext hFi1
  replace hc0 := hc0.ext hFi1
  replace hM1 := hM1.ext hFi1
  replace hNi1 := hNi1.ext hFi1
  replace hH1 := hH1.ext hFi1
  have hlp2_0 := hH0.size_le
  have hlp2_1 := hH1.size_le
  have hlo2 := hX.size_le
  refine call (toIntSS_own (h2.ext hX) hS2.1 hS2.2) ?_
  rintro si2 wi2 ⟨hEi2, hOi2⟩
  have hls2 := hEi2.size_le
  replace hX := hX.ext hEi2
  replace hM0 := hM0.ext hEi2
  replace hMe0 := hMe0.ext hEi2
  replace hNi0 := hNi0.ext hEi2
  replace hH0 := hH0.ext hEi2
  replace hc0 := hc0.ext hEi2
  replace hM1 := hM1.ext hEi2
  replace hNi1 := hNi1.ext hEi2
  replace hH1 := hH1.ext hEi2
  replace hc1 := hc1.ext hEi2
  have hRi2 := hOi2.rep (flat_okII h2)
  have hM2 := mintss_of hOi2 hS2.1 hS2.2
  have hH2 := Ext.refl wi2
  refine LD_iiss hc0 ?_
  refine LD_box3 hc1 ?_
  have hhi0 := hH0.size_le
  have hhi1 := hH1.size_le
  have hhi2 := hH2.size_le
  have hXD := hX.size_le
  refine call (PullRound_ok hNi0 hNi1 hRi2 hS0 hS1 hS2) ?_
  rintro r20 r21 wE ⟨hCE, r2L0, hG20, hA2⟩
  replace hX := hX.ext hCE
  replace hM0 := hM0.ext hCE
  replace hMe0 := hMe0.ext hCE
  replace hNi0 := hNi0.ext hCE
  replace hH0 := hH0.ext hCE
  replace hc0 := hc0.ext hCE
  replace hM1 := hM1.ext hCE
  replace hNi1 := hNi1.ext hCE
  replace hH1 := hH1.ext hCE
  replace hc1 := hc1.ext hCE
  replace hRi2 := hRi2.ext hCE
  replace hM2 := hM2.ext hCE
  replace hH2 := hH2.ext hCE
  obtain ⟨rfl, rfl⟩ := hA1.eq hA2
  refine call (eqIntSS_ok hG20.rep (hL10.ext hX)) ?_
  rintro _ we1 ⟨rfl, hK⟩
  replace hX := hX.ext hK
  replace hM0 := hM0.ext hK
  replace hMe0 := hMe0.ext hK
  replace hNi0 := hNi0.ext hK
  replace hH0 := hH0.ext hK
  replace hc0 := hc0.ext hK
  replace hM1 := hM1.ext hK
  replace hNi1 := hNi1.ext hK
  replace hH1 := hH1.ext hK
  replace hc1 := hc1.ext hK
  replace hRi2 := hRi2.ext hK
  replace hM2 := hM2.ext hK
  replace hH2 := hH2.ext hK
  replace hG20 := hG20.ext hK
  refine cond_f (by simp) ?_
  refine cond_f (by simp) ?_
  unfold V_l_FnExactPullRound_k4
  intro m0 hG0 _
  replace hX := hX.ext hG0
  replace hM0 := hM0.ext hG0
  replace hMe0 := hMe0.ext hG0
  replace hNi0 := hNi0.ext hG0
  replace hH0 := hH0.ext hG0
  replace hc0 := hc0.ext hG0
  replace hM1 := hM1.ext hG0
  replace hNi1 := hNi1.ext hG0
  replace hH1 := hH1.ext hG0
  replace hc1 := hc1.ext hG0
  replace hRi2 := hRi2.ext hG0
  replace hM2 := hM2.ext hG0
  replace hH2 := hH2.ext hG0
  replace hG20 := hG20.ext hG0
  refine LD_iiss hc0 (LD_iiss (hb0.ext hX) ?_)
  refine ⟨Ext.refl _, call (toProblem_ok (h0.ext hX) hS0) ?_⟩
  rintro _ _ ze0 ue0 we0' ⟨rfl, rfl, hHe0, hNe0⟩
  replace hX := hX.ext hHe0
  replace hM0 := hM0.ext hHe0
  replace hMe0 := hMe0.ext hHe0
  replace hNi0 := hNi0.ext hHe0
  replace hH0 := hH0.ext hHe0
  replace hc0 := hc0.ext hHe0
  replace hM1 := hM1.ext hHe0
  replace hNi1 := hNi1.ext hHe0
  replace hH1 := hH1.ext hHe0
  replace hc1 := hc1.ext hHe0
  replace hRi2 := hRi2.ext hHe0
  replace hM2 := hM2.ext hHe0
  replace hH2 := hH2.ext hHe0
  replace hG20 := hG20.ext hHe0
  refine ⟨hHe0, call (eqProblem_ok hNi0 hNe0) ?_⟩
  rintro _ wf0 ⟨rfl, hK0⟩
  replace hX := hX.ext hK0
  replace hM0 := hM0.ext hK0
  replace hMe0 := hMe0.ext hK0
  replace hNi0 := hNi0.ext hK0
  replace hH0 := hH0.ext hK0
  replace hc0 := hc0.ext hK0
  replace hM1 := hM1.ext hK0
  replace hNi1 := hNi1.ext hK0
  replace hH1 := hH1.ext hK0
  replace hc1 := hc1.ext hK0
  replace hRi2 := hRi2.ext hK0
  replace hM2 := hM2.ext hK0
  replace hH2 := hH2.ext hK0
  replace hG20 := hG20.ext hK0
  refine ⟨hHe0.trans hK0, cond_f (by simp) ?_⟩
  intro m1 hG1 _
  replace hX := hX.ext hG1
  replace hM0 := hM0.ext hG1
  replace hMe0 := hMe0.ext hG1
  replace hNi0 := hNi0.ext hG1
  replace hH0 := hH0.ext hG1
  replace hc0 := hc0.ext hG1
  replace hM1 := hM1.ext hG1
  replace hNi1 := hNi1.ext hG1
  replace hH1 := hH1.ext hG1
  replace hc1 := hc1.ext hG1
  replace hRi2 := hRi2.ext hG1
  replace hM2 := hM2.ext hG1
  replace hH2 := hH2.ext hG1
  replace hG20 := hG20.ext hG1
  refine LD_box3 hc1 (LD_box3 (hb1.ext hX) ?_)
  refine ⟨Ext.refl _, call (toNetwork_ok (h1.ext hX) hS1) ?_⟩
  rintro xe1 ye1 ze1 we1' ⟨hHe1, hNe1⟩
  replace hX := hX.ext hHe1
  replace hM0 := hM0.ext hHe1
  replace hMe0 := hMe0.ext hHe1
  replace hNi0 := hNi0.ext hHe1
  replace hH0 := hH0.ext hHe1
  replace hc0 := hc0.ext hHe1
  replace hM1 := hM1.ext hHe1
  replace hNi1 := hNi1.ext hHe1
  replace hH1 := hH1.ext hHe1
  replace hc1 := hc1.ext hHe1
  replace hRi2 := hRi2.ext hHe1
  replace hM2 := hM2.ext hHe1
  replace hH2 := hH2.ext hHe1
  replace hG20 := hG20.ext hHe1
  refine ⟨hHe1, call (eqNetwork_ok hNi1 hNe1) ?_⟩
  rintro _ wf1 ⟨rfl, hK1⟩
  replace hX := hX.ext hK1
  replace hM0 := hM0.ext hK1
  replace hMe0 := hMe0.ext hK1
  replace hNi0 := hNi0.ext hK1
  replace hH0 := hH0.ext hK1
  replace hc0 := hc0.ext hK1
  replace hM1 := hM1.ext hK1
  replace hNi1 := hNi1.ext hK1
  replace hH1 := hH1.ext hK1
  replace hc1 := hc1.ext hK1
  replace hRi2 := hRi2.ext hK1
  replace hM2 := hM2.ext hK1
  replace hH2 := hH2.ext hK1
  replace hG20 := hG20.ext hK1
  refine ⟨hHe1.trans hK1, cond_f (by simp) ?_⟩
  refine call (toIntSS_own (h2.ext hX) hS2.1 hS2.2) ?_
  rintro se2 we2' ⟨hHe2, hOe2⟩
  replace hX := hX.ext hHe2
  replace hM0 := hM0.ext hHe2
  replace hMe0 := hMe0.ext hHe2
  replace hNi0 := hNi0.ext hHe2
  replace hH0 := hH0.ext hHe2
  replace hc0 := hc0.ext hHe2
  replace hM1 := hM1.ext hHe2
  replace hNi1 := hNi1.ext hHe2
  replace hH1 := hH1.ext hHe2
  replace hc1 := hc1.ext hHe2
  replace hRi2 := hRi2.ext hHe2
  replace hM2 := hM2.ext hHe2
  replace hH2 := hH2.ext hHe2
  replace hG20 := hG20.ext hHe2
  refine call (eqIntSS_ok hRi2 (hOe2.rep (flat_okII h2))) ?_
  rintro _ wf2 ⟨rfl, hK2⟩
  replace hX := hX.ext hK2
  replace hM0 := hM0.ext hK2
  replace hMe0 := hMe0.ext hK2
  replace hNi0 := hNi0.ext hK2
  replace hH0 := hH0.ext hK2
  replace hc0 := hc0.ext hK2
  replace hM1 := hM1.ext hK2
  replace hNi1 := hNi1.ext hK2
  replace hH1 := hH1.ext hK2
  replace hc1 := hc1.ext hK2
  replace hRi2 := hRi2.ext hK2
  replace hM2 := hM2.ext hK2
  replace hH2 := hH2.ext hK2
  replace hG20 := hG20.ext hK2
  refine cond_f (by simp) ?_
  refine LD_iiss hc0 ?_
  refine call (markProblem_ok hM0 hMe0 hlm0 hmt0 (by have := hH0.size_le; omega) _ (by omega) (by omega)) ?_
  rintro k0 wm0 ⟨hk0, hkk0, hSh, hCh⟩
  have hzk0 := hCh.size
  replace hX := hCh.extR hX (by omega)
  replace hG20 := hG20.chgR hCh (by omega)
  replace hM1 := hM1.chg hSh hCh (by omega)
  replace hc1 := hc1.chg hCh (by omega)
  replace hM2 := hM2.chg hSh hCh (by omega)
  refine LD_box3 hc1 ?_
  refine call (markNetwork_at _ (by omega) (by omega) hM1 (by have := hH1.size_le; omega)) ?_
  rintro k1 wm1 ⟨hk1, hkk1, hSh, hCh⟩
  have hzk1 := hCh.size
  replace hX := hCh.extR hX (by omega)
  replace hG20 := hG20.chgR hCh (by omega)
  replace hM2 := hM2.chg hSh hCh (by omega)
  refine call (markIntSS_ok hM2 _ (by omega) (by omega)) ?_
  rintro k2 wm2 ⟨hk2, hkk2, hSh, hCh⟩
  have hzk2 := hCh.size
  replace hX := hCh.extR hX (by omega)
  replace hG20 := hG20.chgR hCh (by omega)
  refine cond_df (by omega) ?_
  refine call (eqIntSS_ok hG20.rep (hL10.ext hX)) ?_
  rintro _ we2 ⟨rfl, hK⟩
  replace hX := hX.ext hK
  replace hG20 := hG20.ext hK
  refine cond_f (by simp) ?_
  refine cond_f (by simp) ?_
  unfold V_l_FnExactPullRound_k9
  have hl0 := hG20.rows
  have hll0 := hG20.small
  have hpl0 := pre_le hll0 _ (Nat.le_refl _)
  refine call (markIntSS_out hG20 1 (by omega) (by omega)) ?_
  rintro mk0 wg0 ⟨hmk0, hMk0, hSt⟩
  replace hX := hSt.extB hX (by omega)
  refine call (heldIntSS_ok 1 hMk0 (by omega) (by omega) hl0 hll0) ?_
  rintro qh _ ⟨hqh, rfl⟩
  obtain rfl : mk0 = qh := (hqh.trans hmk0.symm).symm
  refine cond_df (by omega) ?_
  refine cond_f (by simp) ?_
  intro wT hGT _
  replace hX := hX.ext hGT
  replace hMk0 := hMk0.ext hGT
  have hReg := Ext.refl wT
  refine LD_iiss (hb0.ext hX) (LD_box3 (hb1.ext hX) ?_)
  refine call (toProblem_ok (h0.ext hX) hS0) ?_
  rintro _ _ zj0 uj0 wj0 ⟨rfl, rfl, hEj0, hNj0⟩
  replace hX := hX.ext hEj0
  replace hMk0 := hMk0.ext hEj0
  replace hReg := hReg.ext hEj0
  refine ⟨hReg, ?_⟩
  refine call (toNetwork_ok (h1.ext hX) hS1) ?_
  rintro xj1 yj1 zj1 wj1 ⟨hEj1, hNj1⟩
  replace hX := hX.ext hEj1
  replace hMk0 := hMk0.ext hEj1
  replace hReg := hReg.ext hEj1
  replace hNj0 := hNj0.ext hEj1
  refine ⟨hReg, ?_⟩
  refine call (toIntSS_own (h2.ext hX) hS2.1 hS2.2) ?_
  rintro sj2 wj2 ⟨hEj2, hOj2⟩
  replace hX := hX.ext hEj2
  replace hMk0 := hMk0.ext hEj2
  replace hReg := hReg.ext hEj2
  replace hNj0 := hNj0.ext hEj2
  replace hNj1 := hNj1.ext hEj2
  have hRj2 := hOj2.rep (flat_okII h2)
  refine ⟨hReg, ?_⟩
  refine call (PullRound_ok hNj0 hNj1 hRj2 hS0 hS1 hS2) ?_
  rintro r30 r31 wH ⟨hCH, r3L0, hG30, hA3⟩
  replace hX := hX.ext hCH
  replace hMk0 := hMk0.ext hCH
  replace hReg := hReg.ext hCH
  replace hNj0 := hNj0.ext hCH
  replace hNj1 := hNj1.ext hCH
  replace hRj2 := hRj2.ext hCH
  refine ⟨hReg, ?_⟩
  refine ⟨hReg, ?_⟩
  refine ⟨hReg, ?_⟩
  obtain ⟨rfl, rfl⟩ := hA1.eq hA3
  refine call (eqIntSS_ok hG30.rep (hL10.ext hX)) ?_
  rintro _ we3 ⟨rfl, hK⟩
  replace hX := hX.ext hK
  replace hMk0 := hMk0.ext hK
  replace hNj0 := hNj0.ext hK
  replace hNj1 := hNj1.ext hK
  replace hRj2 := hRj2.ext hK
  replace hG30 := hG30.ext hK
  refine cond_f (by simp) ?_
  refine cond_f (by simp) ?_
  refine call (heldIntSS_ok 1 hMk0 (by omega) (by omega) hl0 hll0) ?_
  rintro qh _ ⟨hqh, rfl⟩
  obtain rfl : mk0 = qh := (hqh.trans hmk0.symm).symm
  refine cond_df (by omega) ?_
  refine cond_f (by simp) ?_
  exact ⟨rfl, hE.trans hX⟩

end Go.Proofs.YtlmiookpmneicaaGreat
end
