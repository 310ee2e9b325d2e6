/- Orders of nodes; sets that are kept in order; GreedyIndependent, both sides. -/
import Derived.Test.YtoeaoinedidbiaaMax
import Derived.Test.YtoeaoinedidbiaaMark
import Derived.Test.YtoeaoinedidbiaaLib
namespace Go.Proofs.Ytoeaoinedidbiaa
open Go.GX Go.RowKit
set_option maxRecDepth 100000

theorem slt_bool : SlT Try.prog T.t_sl_bool T.t_bool 1 1 (.bool false) := ⟨by kernel_rfl, by kernel_rfl, rfl, by decide⟩

structure PermOk (l : List Int) (k : Nat) : Prop where
  len : l.length = k
  all : AllIn l 0 (k - 1)
  nodup : l.Nodup

theorem PermOk.node {l : List Int} {k : Nat} (h : PermOk l k) : ∀ x ∈ l, ∃ u : Nat, x = u ∧ u < k := fun x hx => by
  have := h.all x hx
  exact ⟨x.toNat, by omega, by omega⟩

theorem nodup_not {l : List Int} {i : Nat} (hi : i < l.length) (hm : l[i] ∈ l.take i) : ¬ l.Nodup := fun hall => by
  obtain ⟨j, hj, he⟩ := List.mem_take_iff_getElem.1 hm
  exact (List.pairwise_iff_getElem.1 hall) j i (by omega) hi (by omega) he

/-! ### Lists in order -/

theorem sorted_ext : ∀ {a b : List Int}, a.Pairwise (· < ·) → b.Pairwise (· < ·) → (∀ x, x ∈ a ↔ x ∈ b) → a = b
  | [], [], _, _, _ => rfl
  | [], y :: b, _, _, h => by have := (h y).2 (by simp); cases this
  | x :: a, [], _, _, h => by have := (h x).1 (by simp); cases this
  | x :: a, y :: b, ha, hb, h => by
    obtain ⟨ha1, ha2⟩ := List.pairwise_cons.1 ha
    obtain ⟨hb1, hb2⟩ := List.pairwise_cons.1 hb
    have hxy : x = y := by
      have h1 := (h x).1 (by simp)
      have h2 := (h y).2 (by simp)
      rcases List.mem_cons.1 h1 with h3 | h3
      · exact h3
      · rcases List.mem_cons.1 h2 with h4 | h4
        · exact h4.symm
        · have := hb1 x h3; have := ha1 y h4; omega
    subst hxy
    rw [sorted_ext ha2 hb2 fun z => ?_]
    constructor
    · intro hz
      rcases List.mem_cons.1 ((h z).1 (by simp [hz])) with h3 | h3
      · have := ha1 z hz; omega
      · exact h3
    · intro hz
      rcases List.mem_cons.1 ((h z).2 (by simp [hz])) with h3 | h3
      · have := hb1 z hz; omega
      · exact h3

theorem eq_sortI {m S : List Int} (hm : m.Pairwise (· < ·)) (hS : S.Nodup) (h : ∀ x, x ∈ m ↔ x ∈ S) : m = sortI S :=
  sorted_ext hm (incr_iff_pairwise.1 (incr_sortI.2 hS)) fun x => (h x).trans (sortI_perm S).mem_iff.symm

/-- A slice's last elements. -/
theorem slr_drop {α : Type} [RepP α] {D : Nat → Prop} {w : World} {s : Sl} {l : List α} (h : SlR D w s l) {i : Nat} (hi : i ≤ l.length) {sz : Nat} (hsz : sz = Rep.sz α) {K : Sl → Prop} (hk : ∀ s', SlR D w s' (l.drop i) → K s') : SLC s (some (i : Int)) none sz K := by
  subst hsz
  have h1 := h.1
  have h2 := h.2.1
  refine SLC_from' h2.1 (by omega) fun d hd hc ha => hk d ⟨by simp; omega, by omega, fun j x hx => ?_⟩
  rw [List.getElem?_drop] at hx
  have hlt := (List.getElem?_eq_some_iff.1 hx).1
  obtain ⟨a, cs, e1, e2, e3, e4⟩ := h.2.2 (i + j) x hx
  refine ⟨a.add (i * Rep.sz α), cs, by rw [ha (by omega), e1]; rfl, by rw [add_block]; exact e2, e3, fun t v ht => ?_⟩
  rw [add_add, show i * Rep.sz α + (j * Rep.sz α + t) = (i + j) * Rep.sz α + t by rw [Nat.add_mul]; omega]
  exact e4 t v ht

theorem l1Put_D {D : Nat → Prop} {w : World} {s : Sl} {l : List Int} (h : SlR D w s l) (hl : l.length ≤ 100000) (hsorted : l.Pairwise (· < ·)) {n : Int} (hn : I64 n) :
    Calls Try.prog F.s_l1Put #[s.v, .int .i64 n] w (Ret [.at .sl] fun (r : Sl) w' => Ext w w' ∧ ∃ m, SlR (fun b => D b ∨ w.heap.size ≤ b) w' r m ∧ m.Pairwise (· < ·) ∧ (∀ x, x ∈ m ↔ x ∈ l ∨ x = n) ∧ m.length ≤ l.length + 1) := by
  refine C_s_l1Put ?_
  unfold V_s_l1Put
  rw [h.len]
  have hfin : ∀ k : Nat, k ≤ l.length → (∀ x ∈ l.take k, x < n) → (∀ x ∈ l.drop k, n ≤ x) → V_s_l1Put_k1 s n (fun (r : Sl) w' => Ext w w' ∧ ∃ m, SlR (fun b => D b ∨ w.heap.size ≤ b) w' r m ∧ m.Pairwise (· < ·) ∧ (∀ x, x ∈ m ↔ x ∈ l ∨ x = n) ∧ m.length ≤ l.length + 1) (k : Int) w := by
    intro k hk hlo hhi
    unfold V_s_l1Put_k1
    have hput : n ∉ l → V_s_l1Put_k4 s n (fun (r : Sl) w' => Ext w w' ∧ ∃ m, SlR (fun b => D b ∨ w.heap.size ≤ b) w' r m ∧ m.Pairwise (· < ·) ∧ (∀ x, x ∈ m ↔ x ∈ l ∨ x = n) ∧ m.length ≤ l.length + 1) (k : Int) w := by
      intro hnl
      unfold V_s_l1Put_k4
      refine RUN_lit0 (α := Int) slt_int fun r1 w1 hE1 hO1 => ?_
      have h1 := h.ext hE1
      refine h1.take hk rfl fun s1 hs1 => ?_
      have htl : (l.take k).length ≤ 100000 := by simp; omega
      have hdl : (l.drop k).length ≤ 100000 := by simp; omega
      refine RUN_append (α := Int) slt_int hO1 hE1.size_le hs1 (by simp; omega) (by simp [maxLen]; omega) fun r2 w2 hO2 hs2 => ?_
      have hE2 := hs2.ext0 hE1 (fun k hk => (hO1.blk k hk).1)
      refine RUN_lit1 (α := Int) slt_int n rfl (by decide) fun r3 w3 hE3 hO3 => ?_
      have hO2' := hO2.ext hE3
      refine RUN_append (α := Int) slt_int hO2' (hE2.trans hE3).size_le (hO3.rep (by intro z hz; simp at hz; subst hz; exact hn)).any (by simp; omega) (by simp [maxLen]; omega) fun r4 w4 hO4 hs4 => ?_
      have hE4 := hs4.ext0 (hE2.trans hE3) (fun k hk => (hO2'.blk k hk).1)
      refine slr_drop (h.ext hE4) hk rfl fun s5 hs5 => ?_
      refine RUN_append (α := Int) slt_int hO4 hE4.size_le hs5 (by simp; omega) (by simp [maxLen]; omega) fun r6 w6 hO6 hs6 => ?_
      have hE6 := hs6.ext0 hE4 (fun k hk => (hO4.blk k hk).1)
      refine ⟨hE6, _, (hO6.rep ?_).weak (fun b hb _ => .inr hb) RepP.pos, ?_, ?_, ?_⟩
      · intro x hx
        simp only [List.mem_append, List.mem_singleton, List.not_mem_nil, false_or] at hx
        rcases hx with (h7 | h7) | h7
        · exact flat_ok h.any x (List.mem_of_mem_take h7)
        · rw [h7]; exact hn
        · exact flat_ok h.any x (List.mem_of_mem_drop h7)
      · have hp := hsorted
        rw [← List.take_append_drop k l, List.pairwise_append] at hp
        simp only [List.nil_append, List.append_assoc]
        rw [List.pairwise_append]
        refine ⟨hp.1, ?_, ?_⟩
        · simp only [List.singleton_append, List.pairwise_cons]
          refine ⟨fun x hx => ?_, hp.2.1⟩
          have h8 := hhi x hx
          have : x ≠ n := fun he => hnl (he ▸ List.mem_of_mem_drop hx)
          omega
        · intro x hx y hy
          simp only [List.singleton_append, List.mem_cons] at hy
          rcases hy with rfl | hy
          · exact hlo x hx
          · exact hp.2.2 x hx y hy
      · intro x
        simp only [List.mem_append, List.mem_singleton, List.not_mem_nil, false_or]
        constructor
        · rintro ((h7 | h7) | h7)
          · exact .inl (List.mem_of_mem_take h7)
          · exact .inr h7
          · exact .inl (List.mem_of_mem_drop h7)
        · rintro (h7 | h7)
          · rw [← List.take_append_drop k l] at h7
            rcases List.mem_append.1 h7 with h8 | h8
            · exact .inl (.inl h8)
            · exact .inr h8
          · exact .inl (.inr h7)
      · simp; omega
    rw [h.len]
    refine cond_dec (fun hlt => ?_) (fun hge => ?_)
    · have hk' : k < l.length := by omega
      refine h.ixI hk' fun q _ hc => LD_int hc ?_
      refine cond_eq (fun he => ?_) (fun hne => hput fun hm => ?_)
      · refine ⟨Ext.refl _, l, h.weak (fun b hb _ => .inl hb) RepP.pos, hsorted, fun x => ⟨.inl, ?_⟩, by omega⟩
        rintro (h7 | h7)
        · exact h7
        · rw [h7, ← he]; exact List.getElem_mem hk'
      · rw [← List.take_append_drop k l] at hm
        rcases List.mem_append.1 hm with h7 | h7
        · have := hlo n h7; omega
        · rw [List.drop_eq_getElem_cons hk'] at h7
          rcases List.mem_cons.1 h7 with h8 | h8
          · exact hne h8.symm
          · have hp := hsorted
            rw [← List.take_append_drop k l, List.pairwise_append] at hp
            have := hp.2.1
            rw [List.drop_eq_getElem_cons hk', List.pairwise_cons] at this
            have h9 := this.1 n h8
            have h10 := hhi l[k] ((List.drop_eq_getElem_cons hk').symm ▸ List.mem_cons_self)
            omega
    · refine hput fun hm => ?_
      have : k = l.length := by omega
      subst this
      have := hlo n (by simpa using hm)
      omega
  refine ⟨IN l.length fun k w' => w = w' ∧ ∀ x ∈ l.take k, x < n, MN l.length, IN_zero ⟨rfl, by simp⟩, ?_⟩
  rintro _ w1 ⟨k, rfl, hk, rfl, hlo⟩
  intros
  refine cond_dec (fun hlt => ?_) (fun hge => ?_)
  · have hk' : k < l.length := by omega
    refine h.ixI hk' fun q _ hc => LD_int hc ?_
    refine cond_dec (fun h1 => IN_next h.le hk' ⟨rfl, fun x hx => ?_⟩) (fun h1 => hfin k hk hlo fun x hx => ?_)
    · rw [List.take_succ_eq_append_getElem hk'] at hx
      rcases List.mem_append.1 hx with h2 | h2
      · exact hlo x h2
      · rw [List.mem_singleton.1 h2]; exact h1
    · rw [List.drop_eq_getElem_cons hk'] at hx
      have hp := hsorted
      rw [← List.take_append_drop k l, List.pairwise_append] at hp
      have := hp.2.1
      rw [List.drop_eq_getElem_cons hk', List.pairwise_cons] at this
      rcases List.mem_cons.1 hx with rfl | h2
      · omega
      · have := this.1 x h2; omega
  · have : k = l.length := by omega
    subst this
    exact hfin _ (Nat.le_refl _) hlo (by simp)

theorem l1Put_ok {w : World} {s : Sl} {l : List Int} (h : R w s l) (hl : l.length ≤ 100000) (hsorted : l.Pairwise (· < ·)) {n : Int} (hn : I64 n) :
    Calls Try.prog F.s_l1Put #[s.v, .int .i64 n] w (Ret [.at .sl] fun (r : Sl) w' => Ext w w' ∧ ∃ m, R w' r m ∧ m.Pairwise (· < ·) ∧ (∀ x, x ∈ m ↔ x ∈ l ∨ x = n) ∧ m.length ≤ l.length + 1) :=
  call (l1Put_D h hl hsorted hn) fun _ _ ⟨h1, m, h2, h3⟩ => ⟨h1, m, h2.any, h3⟩

/-! ### The greedy set -/

instance (E : Ends) (l : List Int) (v : Nat) : Decidable (Apart E l v) := by unfold Apart; exact inferInstance

/-- May a node join? -/
def joins (E : Ends) (S : List Int) (v : Int) : Prop := (adjOf E v.toNat).contains v = false ∧ Apart E S v.toNat
instance (E : Ends) (S : List Int) (v : Int) : Decidable (joins E S v) := by unfold joins; exact inferInstance
def joinI (E : Ends) (S : List Int) (v : Int) : List Int := if joins E S v then S ++ [v] else S
def greedyI (E : Ends) (order : List Int) : List Int := order.foldl (joinI E) []

theorem greedyI_snoc (E : Ends) (l : List Int) (v : Int) : greedyI E (l ++ [v]) = joinI E (greedyI E l) v := by simp [greedyI]

theorem greedyI_sub (E : Ends) (l : List Int) : (greedyI E l).Sublist l := by
  have : ∀ (l S : List Int), (l.foldl (joinI E) S).Sublist (S ++ l) := by
    intro l
    induction l with
    | nil => intro S; simp
    | cons v r ih =>
      intro S
      rw [List.foldl_cons]
      refine (ih _).trans ?_
      unfold joinI
      split
      · simp
      · exact List.Sublist.append_left (List.sublist_cons_self v r) S
  simpa [greedyI] using this l []

theorem greedyI_nodup {E : Ends} {l : List Int} (h : l.Nodup) : (greedyI E l).Nodup := h.sublist (greedyI_sub E l)
theorem greedyI_mem {E : Ends} {l : List Int} : ∀ x ∈ greedyI E l, x ∈ l := fun _ hx => (greedyI_sub E l).subset hx

theorem greedyIndependent_ok {w : World} {a b c s : Sl} {n : Net} {l : List Int} (h : RNet w a b c n) (hl : R w s l) (hg : Good n) (hN : ∀ x ∈ l, ∃ u : Nat, x = u ∧ u < n.ends.length) (hlen : l.length ≤ 1000) :
    Calls Try.prog F.i_greedyIndependent #[.agg #[a.v, b.v, c.v], s.v] w (Ret [.at .sl] fun (r : Sl) w' => Ext w w' ∧ OwnL w' w.heap.size T.t_int r (sortI (greedyI n.ends l))) := by
  refine C_i_greedyIndependent ?_
  unfold V_i_greedyIndependent
  refine NEW_intro fun p w1 hp hs hE hb1 => ?_
  replace h := h.ext hE
  replace hl := hl.ext hE
  rw [hl.len]
  have hle := hl.le
  refine ⟨IN2 l.length fun i out w' => Ext w1 w' ∧ OwnL w' w1.heap.size T.t_int out (greedyI n.ends (l.take i)), MN2 l.length, IN2_zero ⟨Ext.refl _, by simpa [greedyI] using OwnL.nil _ _ _⟩, ?_⟩
  rintro out _ w2 ⟨i, rfl, hi, hE2, hO⟩
  intros
  replace h := h.ext hE2
  replace hl := hl.ext hE2
  replace hb1 := hb1.ext hE2
  have hsl : (greedyI n.ends (l.take i)).length ≤ 1000 := Nat.le_trans (greedyI_sub _ _).length_le (by simp; omega)
  refine cond_dec (fun hlt => ?_) (fun hge => ?_)
  · have hi' : i < l.length := by omega
    have hsn : greedyI n.ends (l.take (i + 1)) = joinI n.ends (greedyI n.ends (l.take i)) l[i] := by
      rw [List.take_succ_eq_append_getElem hi', greedyI_snoc]
    have hok : ∀ x ∈ greedyI n.ends (l.take i), I64 x := fun x hx => flat_ok hl x (List.mem_of_mem_take (greedyI_mem x hx))
    generalize greedyI n.ends (l.take i) = S at *
    refine hl.ixI hi' fun q h64 hc => LD_int hc (LD_box3 hb1 ?_)
    obtain ⟨u, hu, hul⟩ := hN _ (List.getElem_mem hi')
    rw [hu] at hsn h64 ⊢
    have hjo : ∀ {x : Bool}, joins n.ends S u ↔ (adjOf n.ends u).contains (u : Int) = false ∧ Apart n.ends S u := by intro _; rfl
    refine call (areJoined_ok h hul _) ?_
    rintro x w3 ⟨rfl, hE3⟩
    replace h := h.ext hE3
    replace hl := hl.ext hE3
    replace hb1 := hb1.ext hE3
    replace hE2 := hE2.ext hE3
    replace hO := hO.ext hE3
    refine cond_not (fun hf => ?_) (fun ht => IN2_next hle hi' ⟨hE2, ?_⟩)
    · refine LD_box3 hb1 ?_
      refine call (hasNear_ok h (hO.rep hok).any hul) ?_
      rintro y w4 ⟨hy, hE4⟩
      replace hE2 := hE2.ext hE4
      replace hO := hO.ext hE4
      refine cond_not (fun hf2 => ?_) (fun ht2 => IN2_next hle hi' ⟨hE2, ?_⟩)
      · have hA : Apart n.ends S u := Classical.byContradiction fun hn => by rw [hy.2 hn] at hf2; cases hf2
        refine RUN_lit1 (α := Int) slt_int (u : Int) rfl (by decide) fun r w5 hE5 hO5 => ?_
        replace hE2 := hE2.ext hE5
        replace hO := hO.ext hE5
        refine RUN_append (α := Int) slt_int hO hE2.size_le (hO5.rep (by intro z hz; simp at hz; subst hz; exact h64)).any (by simp; omega) (by simp [maxLen]; omega) fun r' w6 hO6 hs6 => ?_
        refine IN2_next hle hi' ⟨hs6.ext0 hE2 (fun k hk => (hO.blk k hk).1), ?_⟩
        rw [hsn, joinI, if_pos ⟨by simpa using hf, by simpa using hA⟩]
        exact hO6
      · rw [hsn, joinI, if_neg (fun hj => (hy.1 ht2) (by simpa using hj.2))]
        exact hO
    · rw [hsn, joinI, if_neg (fun hj => by have := hj.1; simp at this; simp [this] at ht)]
      exact hO
  · have : i = l.length := by omega
    subst this
    rw [List.take_length] at hO hsl
    refine call (sort_ok hO (by omega)) ?_
    rintro w7 ⟨hO7, hs7⟩
    have hE7 := hs7.ext0 hE2 (fun k hk => (hO.blk k hk).1)
    exact ⟨hE.trans hE7, hO7.low hE.size_le⟩

structure OrderAsked (n : Net) (l : List Int) : Prop where
  good : Good n
  perm : PermOk l n.ends.length

theorem sortI_I64 {l : List Int} (h : ∀ x ∈ l, I64 x) : ∀ x ∈ sortI l, I64 x := fun x hx => h x ((sortI_perm l).mem_iff.1 hx)
theorem sortI_len (l : List Int) : (sortI l).length = l.length := (sortI_perm l).length_eq

end Go.Proofs.Ytoeaoinedidbiaa
