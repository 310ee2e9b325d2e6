/- Colours from lists, both sides. -/
import Derived.Test.YtoeaoinedidbiaaIndCol
import Derived.Test.YtoeaoinedidbiaaEdgeCol
import Derived.Test.YtoeaoinedidbiaaDrop
import Derived.Test.YtoeaoinedidbiaaMat
namespace Go.Proofs.Ytoeaoinedidbiaa
open Go.GX Go.RowKit
set_option maxRecDepth 100000

/-! ### What is computed -/

theorem nodup_sub_len : ∀ {L Z : List Int}, L.Nodup → (∀ x ∈ L, x ∈ Z) → L.length ≤ Z.length
  | [], _, _, _ => Nat.zero_le _
  | x :: L, Z, hn, hs => by
    obtain ⟨h1, h2⟩ := List.nodup_cons.1 hn
    have hx := hs x (by simp)
    have := nodup_sub_len (Z := Z.erase x) h2 fun y hy => (List.mem_erase_of_ne (fun e => h1 (by rw [← e]; exact hy))).2 (hs y (by simp [hy]))
    rw [List.length_erase_of_mem hx] at this
    have : 0 < Z.length := List.length_pos_of_mem hx
    simp; omega

/-- The first of a list that is not taken. -/
def pickF (L taken : List Int) : Int := (L.find? fun c => !taken.contains c).getD 0
def stepF (E : Ends) (lists : List (List Int)) (out : List Int) (x : Int) : List Int := out.set x.toNat (pickF (lists.getD x.toNat []) (nearOf E out x.toNat))
def runF (E : Ends) (lists : List (List Int)) (order : List Int) : List Int := order.foldl (stepF E lists) (List.replicate E.length (-1))

theorem runF_snoc (E : Ends) (lists : List (List Int)) (o : List Int) (x : Int) : runF E lists (o ++ [x]) = stepF E lists (runF E lists o) x := by simp [runF]
theorem runF_len (E : Ends) (lists : List (List Int)) (o : List Int) : (runF E lists o).length = E.length := by
  have : ∀ (o l : List Int), (o.foldl (stepF E lists) l).length = l.length := by
    intro o
    induction o with
    | nil => intro l; rfl
    | cons x r ih => intro l; rw [List.foldl_cons, ih]; simp [stepF]
  unfold runF; rw [this]; simp

theorem pickF_mem {L taken : List Int} : pickF L taken = 0 ∨ pickF L taken ∈ L := by
  unfold pickF
  cases h : L.find? (fun c => !taken.contains c) with
  | none => left; rfl
  | some c => right; exact List.mem_of_find?_eq_some h

theorem runF_I64 {E : Ends} {lists : List (List Int)} (hL : ∀ r ∈ lists, ∀ x ∈ r, I64 x) (o : List Int) : ∀ x ∈ runF E lists o, I64 x := by
  have hz : I64 0 := by unfold I64; omega
  have : ∀ (o l : List Int), (∀ x ∈ l, I64 x) → ∀ x ∈ o.foldl (stepF E lists) l, I64 x := by
    intro o
    induction o with
    | nil => intro l h; exact h
    | cons y r ih =>
      intro l h
      refine ih _ fun x hx => ?_
      rcases List.mem_or_eq_of_mem_set hx with h1 | rfl
      · exact h x h1
      · rcases pickF_mem (L := lists.getD y.toNat []) (taken := nearOf E l y.toNat) with h2 | h2
        · rw [h2]; exact hz
        · by_cases hv : y.toNat < lists.length
          · rw [rowD hv] at h2 ⊢; exact hL _ (List.getElem_mem hv) _ h2
          · rw [List.getD_eq_getElem?_getD, List.getElem?_eq_none (by omega)] at h2; simp at h2
  exact this o _ fun x hx => by rw [List.eq_of_mem_replicate hx]; unfold I64; omega

/-- What is asked of the lists. -/
structure ListsOk (E : Ends) (lists : List (List Int)) : Prop where
  len : lists.length = E.length
  row : ∀ v (h1 : v < lists.length) (h2 : v < E.length), E[v].length + 1 ≤ lists[v].length ∧ lists[v].length ≤ 20 ∧ AllIn lists[v] 0 1000000000000 ∧ lists[v].Nodup

/-- There is one that is not taken. -/
theorem pick_some {L taken : List Int} (hn : L.Nodup) (hl : taken.length < L.length) : ∃ k, ∃ hk : k < L.length, L.findIdx? (fun c => !taken.contains c) = some k ∧ pickF L taken = L[k] ∧ (∀ j (_ : j < k), taken.contains (L[j]'(by omega)) = true) ∧ taken.contains L[k] = false := by
  have hex : ∃ c ∈ L, taken.contains c = false := by
    by_cases h : ∀ c ∈ L, c ∈ taken
    · have := nodup_sub_len hn h; omega
    · simp only [Classical.not_forall] at h
      obtain ⟨c, hc, hct⟩ := h
      exact ⟨c, hc, by simpa using hct⟩
  cases hf : L.findIdx? (fun c => !taken.contains c) with
  | none =>
    obtain ⟨c, hc, hct⟩ := hex
    have := List.findIdx?_eq_none_iff.1 hf c hc
    rw [hct] at this; cases this
  | some k =>
    obtain ⟨hk, hp, hb⟩ := List.findIdx?_eq_some_iff_getElem.1 hf
    refine ⟨k, hk, rfl, ?_, fun j hj => ?_, ?_⟩
    · unfold pickF
      have : L.find? (fun c => !taken.contains c) = some L[k] := by
        rw [List.find?_eq_some_iff_getElem]
        exact ⟨hp, k, hk, rfl, fun j hj => by have := hb j hj; simpa using this⟩
      rw [this]; rfl
    · have := hb j hj
      simpa using this
    · simpa using hp

/-! ### The lists are asked about -/

theorem listsOk_ok {w : World} {a b c s : Sl} {n : Net} {L : List (List Int)} (h : RNet w a b c n) (hl : R w s L) (hg : Good n) (hS : SmallM L) :
    Calls Try.prog F.i_listsOk #[.agg #[a.v, b.v, c.v], s.v] w (Ret [.at .bool] fun (x : Bool) w' => (x = true ↔ ListsOk n.ends L) ∧ Ext w w') := by
  refine C_i_listsOk ?_
  unfold V_i_listsOk
  refine NEW_intro fun p w1 hp hs hE1 hb1 => LD_bs0 hb1 ?_
  replace h := h.ext hE1
  replace hl := hl.ext hE1
  rw [h.1.len, hl.len]
  have h40 := hg.size.2
  have hle := hl.le
  refine cond_ne (fun hne => ⟨?_, hE1⟩) (fun heq => ?_)
  · constructor
    · intro hh; cases hh
    · intro hA; have := hA.len; omega
  have hlen : L.length = n.ends.length := by omega
  refine ⟨IN L.length fun v w' => Ext w1 w' ∧ ∀ u < v, ∀ (h1 : u < L.length) (h2 : u < n.ends.length), n.ends[u].length + 1 ≤ L[u].length ∧ L[u].length ≤ 20 ∧ AllIn L[u] 0 1000000000000 ∧ L[u].Nodup, MN L.length, IN_zero ⟨Ext.refl _, fun u hu => absurd hu (by omega)⟩, ?_⟩
  rintro _ w2 ⟨v, rfl, hv, hE2, hI⟩
  intros
  have hE02 := hE1.trans hE2
  refine cond_dec (fun hlt => ?_) (fun hge => ?_)
  · have hv' : v < L.length := by omega
    have hve : v < n.ends.length := by omega
    have hdeg := hg.deg hve
    refine (hl.ext hE2).ixL hv' fun q s1 hR1 hc => LD_sl hc ?_
    refine values_ok fun w3 hE3 hc3 => ?_
    have hll := hR1.any.le
    have hbig := hS.2 _ (List.getElem_mem hv')
    refine call (sorted_ok hc3 (hR1.any.ext hE3) hbig) ?_
    rintro r w4 ⟨hE4, hO4⟩
    have hE34 := hE3.trans hE4
    have hE24 := hE2.trans hE34
    refine LD_bs0 (hb1.ext hE24) ?_
    refine (h.ext hE24).1.ixL hve fun q s2 hR2 hc => LD_sl hc ?_
    rw [hR1.len, hR2.len, wrap_of (n := (n.ends[v].length : Int) + 1) (by omega) (by omega)]
    refine call (within_ok _ _ _ _) ?_
    rintro x _ ⟨hx, rfl⟩
    refine cond_not (fun hf => ⟨?_, hE1.trans hE24⟩) (fun ht => ?_)
    · constructor
      · intro hh; cases hh
      · intro hA
        have := hA.row v hv' hve
        have h2 := inR_false (hx ▸ hf)
        omega
    have hin := inR_true (hx ▸ ht)
    refine call (increasing_ok (hO4.rep (fun x hx => flat_ok hR1.any x ((sortI_perm _).mem_iff.1 hx))).any 0 1000000000000) ?_
    rintro y _ ⟨hy, rfl⟩
    unfold Rising at hy
    rw [allIn_sortI, incr_sortI] at hy
    refine cond_not (fun hf => ⟨?_, hE1.trans hE24⟩) (fun ht2 => ?_)
    · constructor
      · intro hh; cases hh
      · intro hA
        obtain ⟨_, _, h3, h4⟩ := hA.row v hv' hve
        rw [hy.2 ⟨h3, h4⟩] at hf; cases hf
    obtain ⟨h3, h4⟩ := hy.1 ht2
    exact IN_next hle hv' ⟨hE24, all_succ hI fun _ _ => ⟨by omega, by omega, h3, h4⟩⟩
  · have : v = L.length := by omega
    subst this
    exact ⟨⟨fun _ => ⟨hlen, fun u h1 h2 => hI u h1 h1 h2⟩, fun _ => rfl⟩, hE02⟩

theorem clLists_ok {w : World} {a b c s : Sl} {n : Net} {L : List (List Int)} (h : RNet w a b c n) (hl : R w s L) (hg : Good n) :
    Calls Try.prog F.s_clLists #[.agg #[a.v, b.v, c.v], s.v] w (Ret [.at .bool] fun (x : Bool) w' => (x = true ↔ ListsOk n.ends L) ∧ Ext w w') := by
  refine C_s_clLists ?_
  unfold V_s_clLists
  refine NEW_intro fun p w1 hp hs hE1 hb1 => ?_
  replace h := h.ext hE1
  replace hl := hl.ext hE1
  rw [hl.len]
  have h40 := hg.size.2
  have hle := hl.le
  refine ⟨IN L.length fun v w' => w' = w1 ∧ v ≤ n.ends.length ∧ ∀ u < v, ∀ (h1 : u < L.length) (h2 : u < n.ends.length), n.ends[u].length + 1 ≤ L[u].length ∧ L[u].length ≤ 20 ∧ AllIn L[u] 0 1000000000000 ∧ L[u].Nodup, MN L.length, IN_zero ⟨rfl, by omega, fun u hu => absurd hu (by omega)⟩, ?_⟩
  rintro _ w1 ⟨v, rfl, hv, rfl, hvl, hI⟩
  intros
  refine cond_dec (fun hlt => ?_) (fun hge => ?_)
  · have hv' : v < L.length := by omega
    refine hl.ixL hv' fun q s1 hR1 hc => LD_sl hc (LD_bs0 hb1 ?_)
    rw [h.1.len]
    refine cond_dec (fun hge2 => ⟨?_, hE1⟩) (fun hlt2 => ?_)
    · constructor
      · intro hh; cases hh
      · intro hA; have := hA.len; omega
    have hve : v < n.ends.length := by omega
    refine LD_bs0 hb1 ?_
    refine h.1.ixL hve fun q s2 hR2 hc => LD_sl hc ?_
    rw [hR1.len, hR2.len]
    refine cond_dec (fun hle2 => ⟨?_, hE1⟩) (fun hlt3 => ?_)
    · constructor
      · intro hh; cases hh
      · intro hA; have := hA.row v hv' hve; omega
    refine cond_dec (fun hle2 => ⟨?_, hE1⟩) (fun hlt4 => ?_)
    · constructor
      · intro hh; cases hh
      · intro hA; have := hA.row v hv' hve; omega
    refine call (l1All_ok hR1.any 0 1000000000000) ?_
    rintro y _ ⟨hy, rfl⟩
    refine cond_not (fun hf => ⟨?_, hE1⟩) (fun ht2 => ?_)
    · constructor
      · intro hh; cases hh
      · intro hA
        rw [hy.2 (hA.row v hv' hve).2.2.1] at hf; cases hf
    have hall := hy.1 ht2
    have hle1 := hR1.any.le
    refine ⟨IN L[v].length fun i w' => w' = w1 ∧ (L[v].take i).Nodup, MN L[v].length, IN_zero ⟨rfl, by simp⟩, ?_⟩
    rintro _ w1 ⟨i, rfl, hi, rfl, hN⟩
    intros
    refine cond_dec (fun hlt2 => ?_) (fun hge2 => ?_)
    · have hi' : i < L[v].length := by omega
      refine hR1.any.ixI hi' fun q _ hc => LD_int hc ?_
      refine hR1.any.take (by omega) rfl fun s' hs' => ?_
      refine call (l1Has_ok hs' _) ?_
      rintro z _ ⟨rfl, rfl⟩
      refine cond_b (fun hc => ⟨?_, hE1⟩) (fun hc => IN_next hle1 hi' ⟨rfl, nodup_take_succ hi' hN (by simpa using hc)⟩)
      simp only [Bool.false_eq_true, false_iff]
      intro hM
      have hnd := (hM.row v hv' hve).2.2.2
      have hmem : L[v][i] ∈ L[v].take i := by simpa using hc
      obtain ⟨j, hj, hje⟩ := List.mem_take_iff_getElem.1 hmem
      exact (List.pairwise_iff_getElem.1 hnd j i (by omega) hi' (by omega)) hje
    · have : i = L[v].length := by omega
      subst this
      exact IN_next hle hv' ⟨rfl, by omega, all_succ hI fun _ _ => ⟨by omega, by omega, hall, by simpa using hN⟩⟩
  · have : v = L.length := by omega
    subst this
    refine LD_bs0 hb1 ?_
    rw [h.1.len]
    refine ⟨?_, hE1⟩
    constructor
    · intro he
      have he' : ((L.length : Nat) : Int) = (n.ends.length : Int) := by simpa using he
      exact ⟨by omega, fun u h1 h2 => hI u h1 h1 h2⟩
    · intro hA
      have := hA.len
      rw [this]; simp

/-! ### The two sides -/

structure ClAsked (n : Net) (l : List Int) (L : List (List Int)) : Prop where
  good : Good n
  proper : Proper n l
  lists : ListsOk n.ends L

def flOrd (l : List Int) : List Int := ordTo l ((mostOf l).toNat + 1)
theorem fl_all {l : List Int} (h : AllIn l 0 1000000000000) : ∀ x ∈ l, 0 ≤ x ∧ x < ((mostOf l).toNat + 1 : Nat) := fun x hx => by
  have := (mostOf_spec l).2.1 x hx
  have := h x hx
  omega
def flOut (n : Net) (l : List Int) (L : List (List Int)) : List Int := runF n.ends L (flOrd l)

theorem flPick_ok {w : World} {t : Sl} {taken L : List Int} {p : Addr} {ty : TypeId} (ht : R w t taken) (hb : Box w p ty [t.v]) :
    Answers w (.func (.func F.i_ColourFromLists_2) #[] #[.pointer (some p)]) L fun c => !taken.contains c := by
  intro x _ w' hE
  refine CALLV_mk (by kernel_rfl) ?_
  refine C_i_ColourFromLists_2 ?_
  unfold V_i_ColourFromLists_2
  refine LD_bs (hb.ext hE) ?_
  refine call (contains_ok (ht.ext hE) x) ?_
  rintro y w1 ⟨rfl, rfl⟩
  exact ⟨rfl, Ext.refl _⟩

theorem stepF_at {E : Ends} {L : List (List Int)} {out : List Int} {v k : Nat} (hv : v < L.length) (hk : k < L[v].length) (hp : pickF L[v] (nearOf E out v) = L[v][k]) : stepF E L out (v : Int) = out.set v L[v][k] := by
  unfold stepF
  rw [Int.toNat_natCast, rowD hv, hp]

theorem ColourFromLists_ok {w : World} {a b c s t : Sl} {n : Net} {l : List Int} {L : List (List Int)} (h : RNet w a b c n) (hl : R w s l) (hL : R w t L) (hn : Small n) (hS : SmallM L) :
    Calls Try.prog F.i_ColourFromLists #[.agg #[a.v, b.v, c.v], s.v, t.v] w (Ret [.at .sl, .at .bool] fun (r : Sl) (y : Bool) w' => Ext w w' ∧ ∃ m, OutL w.heap.size w' r m ∧ AnsG (ClAsked n l L) (flOut n l L) [] m y) := by
  refine C_i_ColourFromLists ?_
  unfold V_i_ColourFromLists
  refine NEW_intro fun p w1 hp hs1 hE1 hb1 => NEW_intro fun p2 w2 hp2 hs2 hE2 hb2 => LD_box3 (hb1.ext hE2) ?_
  have hE := hE1.trans hE2
  replace h := h.ext hE
  replace hl := hl.ext hE
  replace hL := hL.ext hE
  replace hb1 := hb1.ext hE2
  refine call (isNetwork_ok h hn.2.2.1) ?_
  rintro x w3 ⟨hx, hE3⟩
  replace hE := hE.ext hE3
  replace h := h.ext hE3
  replace hl := hl.ext hE3
  replace hL := hL.ext hE3
  replace hb1 := hb1.ext hE3
  replace hb2 := hb2.ext hE3
  refine cond_not (fun hf => ⟨hE, [], OutL.nil _ _, .no fun hg => ?_⟩) (fun ht => ?_)
  · rw [hx.2 hg.good] at hf; cases hf
  have hg := hx.1 ht
  have h40 := hg.size.2
  refine LD_box3 hb1 (LD_bs hb2 ?_)
  refine call (isColouring_ok h hl hg) ?_
  rintro y w4 ⟨hy, hE4⟩
  replace hE := hE.ext hE4
  replace h := h.ext hE4
  replace hl := hl.ext hE4
  replace hL := hL.ext hE4
  replace hb1 := hb1.ext hE4
  replace hb2 := hb2.ext hE4
  refine cond_not (fun hf => ⟨hE, [], OutL.nil _ _, .no fun hA => ?_⟩) (fun ht2 => ?_)
  · rw [hy.2 hA.proper] at hf; cases hf
  have hP := hy.1 ht2
  refine LD_box3 hb1 ?_
  refine call (listsOk_ok h hL hg hS) ?_
  rintro y w5 ⟨hy5, hE5⟩
  replace hE := hE.ext hE5
  replace h := h.ext hE5
  replace hl := hl.ext hE5
  replace hL := hL.ext hE5
  replace hb1 := hb1.ext hE5
  replace hb2 := hb2.ext hE5
  refine cond_not (fun hf => ⟨hE, [], OutL.nil _ _, .no fun hA => ?_⟩) (fun ht3 => ?_)
  · rw [hy5.2 hA.lists] at hf; cases hf
  have hLs := hy5.1 ht3
  have hlen := hP.1
  have hall := hP.2.1
  have hLlen := hLs.len
  unfold V_i_ColourFromLists_k1
  refine LD_bs hb2 ?_
  rw [hl.len]
  refine call (numbersTo_ok l.length (by omega) w5) ?_
  rintro r8 w8 ⟨hE8, hO8⟩
  have hz7 := hE.size_le
  have hlt2 := hb2.lt
  have hD : ∀ k, oB r8 k → w5.heap.size ≤ k := fun k hk => (hO8.blk k hk).1
  refine call (sortStable_ok (key := colAt l) hO8 (upTo_ok _ (by omega)) (by rw [upTo_len]; omega) (upTo_incr _)
    (flLess_ok (D := oB r8) ((hl.below.ext hE8).weak (fun k hk _ hh => by have := hD k hh; omega) RepP.pos) (hb2.ext hE8) (fun hh => by have := hD _ hh; omega) hall)) ?_
  rintro w9 ⟨l', hO9, hC9, hperm, hsort⟩
  have hord : l' = flOrd l := ord_unique (l := l) (fl_all hall) hperm hsort
  subst hord
  have hE79 : Ext w5 w9 := hC9.ext0 hE8 hD
  replace hE := hE.ext hE79
  replace h := h.ext hE79
  replace hl := hl.ext hE79
  replace hL := hL.ext hE79
  replace hb1 := hb1.ext hE79
  replace hb2 := hb2.ext hE79
  refine RUN_lit1 (α := Int) slt_int (-1) rfl (by decide) fun r3 w10 hE10 hO10 => ?_
  replace hE := hE.ext hE10
  replace h := h.ext hE10
  replace hl := hl.ext hE10
  replace hL := hL.ext hE10
  replace hb1 := hb1.ext hE10
  replace hb2 := hb2.ext hE10
  replace hO9 := hO9.ext hE10
  refine LD_bs hb2 ?_
  rw [hl.len]
  refine call (repeat_ok (hO10.rep (by intro x hx; simp at hx; subst hx; exact ⟨by decide, by decide⟩)).any ⟨by decide, by decide⟩ (by omega)) ?_
  rintro r w11 ⟨hE11, hO11⟩
  have hlenO : (flOrd l).length = l.length := by unfold flOrd; rw [← (ord_perm (fl_all hall)).length_eq, upTo_len]
  have hmemO : ∀ x ∈ flOrd l, ∃ u : Nat, x = u ∧ u < l.length := fun x hx => by obtain ⟨u, _, rfl, hu, _⟩ := mem_ordTo.1 hx; exact ⟨u, rfl, hu⟩
  have hRo := (hO9.rep fun x hx => by obtain ⟨u, rfl, hu⟩ := hmemO x hx; show I64 _; unfold I64; omega).any
  have hLI : ∀ r ∈ L, ∀ x ∈ r, I64 x := flat_okII hL
  rw [hRo.len]
  have hzz := hE11.size_le
  have hz10 := hE.size_le
  refine ⟨IN (flOrd l).length fun i w' => Ext w10 w' ∧ OwnL w' w10.heap.size T.t_int r (runF n.ends L ((flOrd l).take i)), MN (flOrd l).length, IN_zero ⟨hE11, by simpa [runF, hlen] using hO11⟩, ?_⟩
  rintro _ w12 ⟨i, rfl, hi, hE12, hO⟩
  intros
  have hEw := hE.trans hE12
  refine cond_dec (fun hlt => ?_) (fun hge => ?_)
  · have hi' : i < (flOrd l).length := by omega
    obtain ⟨u, hu, hul⟩ := hmemO _ (List.getElem_mem hi')
    have hun : u < n.ends.length := by omega
    have huL : u < L.length := by omega
    refine (hRo.ext hE12).ixI hi' fun q _ hc => LD_int hc ?_
    rw [hu]
    refine LD_box3 (hb1.ext hE12) ?_
    have hRr := (hO.rep (runF_I64 hLI _)).any
    refine call (near_ok (h.ext hE12) hRr hg (runF_len _ _ _) hun) ?_
    rintro r13 w13 ⟨hE13, hO13⟩
    have hR13 := (hO13.rep (near_I64 hg (runF_I64 hLI _) (runF_len _ _ _) hun)).any
    refine NEW_ST (one1s r13) rfl fun pt w14 hpt hE14 hbt => ?_
    have hE1214 := hE13.trans hE14
    have hL14 := hL.ext (hE12.trans hE1214)
    refine hL14.ixL huL fun q s2 hR2 hc => LD_sl hc ?_
    refine call (indexFuncI_ok hR2.any (flPick_ok (hR13.ext hE14) hbt)) ?_
    rintro x w15 ⟨hx, hE15⟩
    obtain ⟨hrow, _, _, hnd⟩ := hLs.row u huL hun
    obtain ⟨k, hk, hfi, hpk, _, _⟩ := pick_some (L := L[u]) (taken := nearOf n.ends (runF n.ends L ((flOrd l).take i)) u) hnd (by rw [near_adj, List.length_map, adj_len hg hun]; omega)
    rw [hfi] at hx
    subst hx
    refine (hL14.ext hE15).ixL huL fun q s3 hR3 hc => LD_sl hc ?_
    refine hR3.any.ixI hk fun q _ hc => LD_int hc ?_
    have hEt := hE1214.trans hE15
    have hO' := hO.ext hEt
    refine IX_own hO' (by rw [runF_len]; exact hun) rfl fun q hq => ?_
    refine ST_own hO' (by rw [runF_len]; exact hun) hq L[u][k] rfl fun w16 hO16 hs16 => ?_
    refine IN_next (by omega) hi' ⟨hs16.ext0 (hE12.trans hEt) (fun k hk => (hO'.blk k hk).1), ?_⟩
    · rw [List.take_succ_eq_append_getElem hi', runF_snoc, hu, stepF_at huL hk hpk]
      exact hO16
  · have : i = (flOrd l).length := by omega
    subst this
    rw [List.take_length] at hO
    refine ⟨hEw, flOut n l L, ⟨hO.low hz10, runF_I64 hLI _, by unfold flOut; rw [runF_len]; omega⟩, .yes ⟨hg, hP, hLs⟩⟩

/-! ### The reference's side -/

theorem flat_ord {l C : List Int} {m : Nat} (hall : ∀ x ∈ l, 0 ≤ x ∧ x < m) (hC : C.Pairwise (· < ·)) (hm : ∀ x, x ∈ C ↔ x ∈ l) : (C.flatMap fun c => byTo l c l.length) = ordTo l m := by
  have hpw : (C.flatMap fun c => byTo l c l.length).Pairwise (ltK (colAt l)) := by
    rw [List.pairwise_flatMap]
    refine ⟨fun c _ => byTo_pairwise l c _, hC.imp fun {a b} hab x hx y hy => ?_⟩
    obtain ⟨u, rfl, _, h1⟩ := mem_byTo.1 hx
    obtain ⟨v, rfl, _, h2⟩ := mem_byTo.1 hy
    left
    simp only [colAt, Int.toNat_natCast]
    rw [h1, h2]; exact hab
  refine ord_unique hall ((List.perm_ext_iff_of_nodup (ltK_irr hpw) (upTo_nodup _)).2 fun x => ?_) hpw
  rw [mem_upTo, List.mem_flatMap]
  constructor
  · rintro ⟨c, _, hx⟩
    obtain ⟨u, rfl, hu, _⟩ := mem_byTo.1 hx
    exact ⟨u, rfl, hu⟩
  · rintro ⟨u, rfl, hu⟩
    exact ⟨l[u], (hm _).2 (List.getElem_mem hu), mem_byTo.2 ⟨u, rfl, hu, by simp [hu]⟩⟩

theorem sColourFromLists_ok {w : World} {a b c s t : Sl} {n : Net} {l : List Int} {L : List (List Int)} (h : RNet w a b c n) (hl : R w s l) (hL : R w t L) :
    Calls Try.prog F.s_ColourFromLists #[.agg #[a.v, b.v, c.v], s.v, t.v] w (Ret [.at .sl, .at .bool] fun (r : Sl) (y : Bool) w' => Ext w w' ∧ ∃ m, R w' r m ∧ AnsG (ClAsked n l L) (flOut n l L) [] m y) := by
  refine C_s_ColourFromLists ?_
  unfold V_s_ColourFromLists
  refine NEW_intro fun p w1 hp hs hE hb1 => LD_box3 hb1 ?_
  replace h := h.ext hE
  replace hl := hl.ext hE
  replace hL := hL.ext hE
  refine call (neGood_ok h) ?_
  rintro x w2 ⟨hx, hE2⟩
  replace hE := hE.ext hE2
  replace h := h.ext hE2
  replace hl := hl.ext hE2
  replace hL := hL.ext hE2
  replace hb1 := hb1.ext hE2
  refine cond_not (fun hf => ⟨hE, [], (OutL.nil 0 _).rep, .no fun hg => ?_⟩) (fun ht => ?_)
  · rw [hx.2 hg.good] at hf; cases hf
  have hg := hx.1 ht
  have h40 := hg.size.2
  refine LD_box3 hb1 ?_
  refine call (clProper_ok h hl hg) ?_
  rintro y w3 ⟨hy, hE3⟩
  replace hE := hE.ext hE3
  replace h := h.ext hE3
  replace hl := hl.ext hE3
  replace hL := hL.ext hE3
  replace hb1 := hb1.ext hE3
  refine cond_not (fun hf => ⟨hE, [], (OutL.nil 0 _).rep, .no fun hA => ?_⟩) (fun ht2 => ?_)
  · rw [hy.2 hA.proper] at hf; cases hf
  have hP := hy.1 ht2
  refine LD_box3 hb1 ?_
  refine call (clLists_ok h hL hg) ?_
  rintro y w5 ⟨hy5, hE5⟩
  replace hE := hE.ext hE5
  replace h := h.ext hE5
  replace hl := hl.ext hE5
  replace hL := hL.ext hE5
  replace hb1 := hb1.ext hE5
  refine cond_not (fun hf => ⟨hE, [], (OutL.nil 0 _).rep, .no fun hA => ?_⟩) (fun ht3 => ?_)
  · rw [hy5.2 hA.lists] at hf; cases hf
  have hLs := hy5.1 ht3
  have hlen := hP.1
  have hall := hP.2.1
  have hLlen := hLs.len
  have hLI : ∀ r ∈ L, ∀ x ∈ r, I64 x := flat_okII hL
  unfold V_s_ColourFromLists_k1
  rw [hl.len]
  refine RUN_make (α := Int) slt_int (d := 0) rfl (by omega) (by unfold maxLen; omega) fun r w6 hE6 hO6 => ?_
  rw [hO6.1, List.length_replicate]
  refine ⟨IN l.length fun i w' => Ext w5 w' ∧ OwnL w' w5.heap.size T.t_int r (List.replicate i (-1) ++ List.replicate (l.length - i) 0), MN l.length, IN_zero ⟨hE6, by simpa using hO6⟩, ?_⟩
  rintro x w7 ⟨i, rfl, hi, hE7, hO⟩
  intros
  refine cond_dec (fun hlt => ?_) (fun hge => ?_)
  · have hi' : i < l.length := by omega
    refine IX_own hO (by simp; omega) rfl fun p hp => ?_
    refine ST_own hO (by simp; omega) hp (-1 : Int) rfl fun w8 hO8 hs8 => ?_
    refine IN_next (by omega) hi' ⟨hs8.ext0 hE7 (fun k hk => (hO.blk k hk).1), ?_⟩
    have e : (List.replicate i (-1 : Int) ++ List.replicate (l.length - i) 0).set i (-1) = List.replicate (i + 1) (-1) ++ List.replicate (l.length - (i + 1)) 0 := by
      rw [List.set_append_right _ _ (by simp), List.length_replicate, Nat.sub_self, show l.length - i = (l.length - (i + 1)) + 1 by omega, List.replicate_succ, List.set_cons_zero, List.replicate_succ']
      simp
    rw [← e]; exact hO8
  have hil : i = l.length := by omega
  subst hil
  rw [Nat.sub_self, List.replicate_zero, List.append_nil] at hO
  have hblk : ∀ k, r.v.ownBlock = some k → w5.heap.size ≤ k ∧ k < w7.heap.size := hO.blk
  refine ⟨IN2 l.length fun i o w' => Ext w7 w' ∧ ∃ C, SlR (fun b => w7.heap.size ≤ b) w' o C ∧ C.Pairwise (· < ·) ∧ (∀ x, x ∈ C ↔ x ∈ l.take i) ∧ C.length ≤ i, MN2 l.length, IN2_zero ⟨Ext.refl _, [], (OutL.nil w7.heap.size w7).1.rep (fun x hx => by cases hx), .nil, by simp, by simp⟩, ?_⟩
  rintro o _ w9 ⟨i, rfl, hi, hE9, C, hC, hCp, hCm, hCl⟩
  intros
  have hE59 := hE7.trans hE9
  refine cond_dec (fun hlt => ?_) (fun hge => ?_)
  · have hi' : i < l.length := by omega
    refine (hl.ext hE59).ixI hi' fun q h64 hc => LD_int hc ?_
    refine call (l1Put_D hC (by omega) hCp h64) ?_
    rintro r10 w10 ⟨hE10, C', hC', hCp', hCm', hCl'⟩
    have hsz := hE9.size_le
    refine IN2_next (by omega) hi' ⟨hE9.trans hE10, C', hC'.weak (fun b hb _ => by rcases hb with h1 | h1 <;> omega) RepP.pos, hCp', fun x => ?_, by omega⟩
    rw [hCm', hCm, List.take_succ_eq_append_getElem hi', List.mem_append, List.mem_singleton]
  have hil : i = l.length := by omega
  subst hil
  rw [List.take_length] at hCm
  have hfo := flat_ord (fl_all hall) hCp hCm
  have hfo' : (C.flatMap fun c => byTo l c l.length) = flOrd l := hfo
  refine ⟨IN C.length fun j w' => Ext w5 w' ∧ SlR (fun b => w7.heap.size ≤ b) w' o C ∧ OwnL w' w5.heap.size T.t_int r (runF n.ends L ((C.take j).flatMap fun c => byTo l c l.length)), MN C.length, IN_zero ⟨hE59, hC, by simpa [runF, hlen] using hO.ext hE9⟩, ?_⟩
  rintro _ w11 ⟨j, rfl, hj, hE11, hC11, hO11⟩
  intros
  rw [hC11.len]
  refine cond_dec (fun hlt => ?_) (fun hge => ?_)
  rotate_left
  · have : j = C.length := by omega
    subst this
    rw [List.take_length, hfo'] at hO11
    exact ⟨hE.trans hE11, _, (hO11.rep (runF_I64 hLI _)).any, .yes ⟨hg, hP, hLs⟩⟩
  have hj' : j < C.length := by omega
  refine hC11.ixI hj' fun q _ hc => LD_int hc ?_
  refine ⟨IN l.length fun v w' => Ext w5 w' ∧ SlR (fun b => w7.heap.size ≤ b) w' o C ∧ OwnL w' w5.heap.size T.t_int r (runF n.ends L (((C.take j).flatMap fun c => byTo l c l.length) ++ byTo l C[j] v)), MN l.length, IN_zero ⟨hE11, hC11, by simpa [byTo] using hO11⟩, ?_⟩
  rintro _ w12 ⟨v, rfl, hv, hE12, hC12, hO12⟩
  intros
  refine cond_dec (fun hlt2 => ?_) (fun hge2 => ?_)
  rotate_left
  · have : v = l.length := by omega
    subst this
    refine IN_next (by omega) hj' ⟨hE12, hC12, ?_⟩
    rw [List.take_succ_eq_append_getElem hj', List.flatMap_append, List.flatMap_singleton]
    exact hO12
  have hv' : v < l.length := by omega
  have hvn : v < n.ends.length := by omega
  have hvL : v < L.length := by omega
  have hgv : l.getD v 0 = l[v] := by simp [hv']
  refine (hl.ext hE12).ixI hv' fun q _ hc => LD_int hc ?_
  refine cond_ne (fun hne => ?_) (fun heq => ?_)
  · refine IN_next (by omega) hv' ⟨hE12, hC12, ?_⟩
    rw [byTo_succ, hgv]
    have : (l[v] == C[j]) = false := by simpa using hne
    rw [this]
    simpa using hO12
  refine LD_box3 (hb1.ext hE12) ?_
  refine call (neNear_ok (h.ext hE12) hg hvn) ?_
  rintro r13 w13 ⟨hE13, hO13⟩
  have hRr := (hO12.rep (runF_I64 hLI _)).any
  refine call (through_ok ((h.ext hE12).ext hE13) (hRr.ext hE13) hg (runF_len _ _ _) hvn hO13) ?_
  rintro r14 w14 ⟨hE14, hO14⟩
  have hR14 := (hO14.rep (near_I64 hg (runF_I64 hLI _) (runF_len _ _ _) hvn)).any
  have hE124 := hE13.trans hE14
  have hE514 := hE12.trans hE124
  have hL14 := hL.ext hE514
  obtain ⟨hrow, hr20, _, hnd⟩ := hLs.row v hvL hvn
  generalize hM : runF n.ends L (((C.take j).flatMap fun c => byTo l c l.length) ++ byTo l C[j] v) = M at *
  have hMl : M.length = n.ends.length := by rw [← hM, runF_len]
  obtain ⟨k, hk, _, hpk, hbef, hat⟩ := pick_some (L := L[v]) (taken := nearOf n.ends M v) hnd (by rw [near_adj, List.length_map, adj_len hg hvn]; omega)
  refine ⟨fun (x : Int) w' => ∃ u : Nat, x = u ∧ u ≤ k ∧ w14 = w', fun x _ => k - x.toNat, ⟨0, rfl, by omega, rfl⟩, ?_⟩
  rintro _ _ ⟨u, rfl, hu, rfl⟩
  intros
  refine hL14.ixL hvL fun q s3 hR3 hc => LD_sl hc ?_
  refine hR3.any.ixI (i := u) (by omega) fun q _ hc => LD_int hc ?_
  refine call (l1Has_ok hR14 _) ?_
  rintro z _ ⟨rfl, rfl⟩
  refine cond_b (fun hz => ?_) (fun hz => ?_)
  · have huk : u < k := by
      by_cases he : u = k
      · subst he; rw [hat] at hz; cases hz
      · omega
    rw [wrap_of (by omega) (by omega)]
    exact ⟨⟨u + 1, by omega, by omega, rfl⟩, by show k - ((u : Int) + 1).toNat < k - ((u : Int)).toNat; omega⟩
  have hku : u = k := by
    by_cases he : u < k
    · rw [hbef u he] at hz; cases hz
    · omega
  subst hku
  refine hL14.ixL hvL fun q s4 hR4 hc => LD_sl hc ?_
  refine hR4.any.ixI hk fun q _ hc => LD_int hc ?_
  have hO' := hO12.ext hE124
  refine IX_own hO' (by rw [hMl]; exact hvn) rfl fun q hq => ?_
  refine ST_own hO' (by rw [hMl]; exact hvn) hq L[v][u] rfl fun w17 hO17 hs17 => ?_
  refine IN_next (by omega) hv' ⟨hs17.ext0 hE514 (fun k hk => (hO'.blk k hk).1), (hC12.ext hE124).stepD hs17 (fun b hb he => by have := (hblk b he).2; omega), ?_⟩
  rw [byTo_succ, hgv]
  have : (l[v] == C[j]) = true := by
    have h1 : l[v] = C[j] := heq
    simp [h1]
  rw [this, if_pos rfl, ← List.append_assoc, runF_snoc, hM, stepF_at hvL hk hpk]
  exact hO17

end Go.Proofs.Ytoeaoinedidbiaa
