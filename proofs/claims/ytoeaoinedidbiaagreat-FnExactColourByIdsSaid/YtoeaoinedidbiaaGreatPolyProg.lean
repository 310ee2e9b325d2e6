/- A round of colours by polynomials: the program's side, and both statements' answers. -/
import Derived.Test.YtoeaoinedidbiaaGreatPolyWalks
import Derived.Test.YtoeaoinedidbiaaGreatFarI
namespace Go.Proofs.YtoeaoinedidbiaaGreat
open Go.GX Go.RowKit
set_option maxRecDepth 100000

theorem ixLD {α : Type} [RepP α] {D : Nat → Prop} {w : World} {s : Sl} {l : List (List α)} (h : SlR D w s l) {i : Nat} (hi : i < l.length) {K : Addr → Prop}
    (hk : ∀ p (s' : Sl), SlR D w s' l[i] → w.cell? p = some s'.v → D p.block → K p) : IX s i 1 K := by
  obtain ⟨a, cs, h1, h2, h3, h4⟩ := h.2.2 i l[i] (by simp [hi])
  obtain ⟨s', rfl, hs⟩ := h3
  refine ⟨a, h1, by omega, by rw [h.1]; omega, hk _ s' hs ?_ (by rw [add_block]; exact h2)⟩
  have := h4 0 _ rfl
  simpa [Rep.sz] using this

/-! ### The table of values -/

def fullR (q : Int) (d : Nat) (c : Int) : List Int := (List.range q.toNat).map fun x => valC q d c x
def valT (q : Int) (d : Nat) (l : List Int) (v x : Nat) : List (List Int) := (List.range l.length).map fun u => (fullR q d (l.getD u 0)).take (if u < v then q.toNat else if u = v then x else 0)

theorem fullR_len (q : Int) (d : Nat) (c : Int) : (fullR q d c).length = q.toNat := by simp [fullR]
theorem fullR_get (q : Int) (d : Nat) (c : Int) {x : Nat} (hx : x < (fullR q d c).length) : (fullR q d c)[x] = valC q d c x := by simp [fullR]
theorem valT_len (q : Int) (d : Nat) (l : List Int) (v x : Nat) : (valT q d l v x).length = l.length := by simp [valT]
theorem valT_get (q : Int) (d : Nat) (l : List Int) (v x : Nat) {u : Nat} (hu : u < (valT q d l v x).length) : (valT q d l v x)[u] = (fullR q d (l.getD u 0)).take (if u < v then q.toNat else if u = v then x else 0) := by simp [valT]

theorem valT_zero (q : Int) (d : Nat) (l : List Int) : valT q d l 0 0 = List.replicate l.length [] := by
  apply List.ext_getElem (by simp [valT])
  intro i h1 h2
  rw [valT_get, List.getElem_replicate]
  simp

theorem valT_next (q : Int) (d : Nat) (l : List Int) (v : Nat) : valT q d l v q.toNat = valT q d l (v + 1) 0 := by
  apply List.ext_getElem (by simp [valT])
  intro i h1 h2
  rw [valT_get, valT_get]
  congr 1
  by_cases h3 : i < v
  · rw [if_pos h3, if_pos (by omega)]
  · by_cases h4 : i = v
    · rw [if_neg h3, if_pos h4, if_pos (by omega)]
    · rw [if_neg h3, if_neg h4, if_neg (by omega)]
      split <;> rfl

theorem valT_row (q : Int) (d : Nat) (l : List Int) {v x : Nat} (hv : v < l.length) : (valT q d l v x)[v]? = some ((fullR q d l[v]).take x) := by
  have h : v < (valT q d l v x).length := by rw [valT_len]; exact hv
  rw [List.getElem?_eq_getElem h, valT_get]
  simp [hv]

theorem valT_set (q : Int) (d : Nat) (l : List Int) {v x : Nat} (hv : v < l.length) (hx : x < q.toNat) : (valT q d l v x).set v ((fullR q d l[v]).take x ++ [valC q d l[v] x]) = valT q d l v (x + 1) := by
  apply List.ext_getElem (by simp [valT])
  intro i h1 h2
  rw [valT_get, List.getElem_set]
  by_cases h3 : v = i
  · subst h3
    have hl : x < (fullR q d l[v]).length := by rw [fullR_len]; exact hx
    rw [if_pos rfl, if_neg (by omega), if_pos rfl, ← fullR_get q d l[v] hl]
    have : l.getD v 0 = l[v] := by simp [hv]
    rw [this, List.take_succ_eq_append_getElem hl]
  · rw [if_neg h3, valT_get]
    congr 1
    by_cases h4 : i < v
    · rw [if_pos h4, if_pos h4]
    · rw [if_neg h4, if_neg h4, if_neg (by omega), if_neg (by omega)]

theorem valT_all (q : Int) (d : Nat) (l : List Int) {v : Nat} (hv : v < (valT q d l l.length 0).length) : (valT q d l l.length 0)[v] = fullR q d (l.getD v 0) := by
  rw [valT_get, if_pos (by rw [valT_len] at hv; exact hv)]
  rw [← fullR_len q d (l.getD v 0), List.take_length]

theorem valT_I64 {q : Int} (hq2 : 2 ≤ q) (hq : q ≤ 1000) (d : Nat) (l : List Int) (v x : Nat) : ∀ r ∈ valT q d l v x, ∀ y ∈ r, I64 y := by
  intro r hr y hy
  obtain ⟨u, _, rfl⟩ := List.mem_map.1 hr
  obtain ⟨z, _, rfl⟩ := List.mem_map.1 (List.mem_of_mem_take hy)
  have := valC_range (show 0 < q by omega) d (l.getD u 0) z
  unfold I64; omega

theorem snocI {w : World} {base : Nat} {s : Sl} {L : List (List Int)} {ss : List Sl} (h : RowsD w base T.t_int T.t_sl_int s L ss) (hbase : base ≤ w.heap.size) {v : Nat} {l : List Int} (hl : L[v]? = some l) {r : Sl} (hr : ss[v]? = some r) (hlen : l.length ≤ 1000) {x : Int} (hx : I64 x) {K : World → Prop}
    (hk : ∀ w' r', RowsD w' base T.t_int T.t_sl_int s (L.set v (l ++ [x])) (ss.set v r') → Chg w w' (fun b => oB r b ∨ oB s b) → (∀ b, oB r' b → oB r b ∨ w.heap.size ≤ b) → K w') :
    RUN Tryz.prog (.at .sl) (Instr.buildSlice T.t_sl_int 1 #[(0, .int .i64 x)]) w fun y1 w1 => Chg w w1 (oB r) ∧ (RUN Tryz.prog (.at .sl) (bsem .append #[T.t_sl_int, T.t_sl_int] T.t_sl_int #[r.v, y1.v]) w1 fun r' w2 => Chg w w2 (oB r) ∧ (IX s (v : Int) 1 fun p => GX.ST p 0 [r'.v] w2 K)) := by
  refine RUN_lit1 (α := Int) slt_int x rfl (by decide) fun y1 w1 hE1 hO1 => ⟨.of_ext hE1, ?_⟩
  have h1 := h.ext hE1
  have hv : v < L.length := (List.getElem?_eq_some_iff.1 hl).1
  have hO := h1.row v r l hr hl
  refine RUN_appendF (α := Int) slt_int hO (Nat.le_trans hbase hE1.size_le) (hO1.rep (by intro z hz; simp at hz; subst hz; exact hx)).any (by simp; omega) (by simp [maxLen]; omega) fun r' w2 hO2 hs2 hn2 => ?_
  have hc2 : Chg w w2 (oB r) := (Chg.of_ext hE1).trans (.of_step hs2 fun k hk => hk)
  refine ⟨hc2, ?_⟩
  have hR2 : OwnL w2 base T.t_sl_int s ss := h1.own.keep fun k hk => hs2.block k (h1.own.blk k hk).2 fun he => h1.block_ne (by decide) hr he.symm hk
  refine IX_own hR2 (by rw [h.len]; exact hv) rfl fun p hp => ?_
  exact h1.put (by decide) hv hr hO2 hs2 hn2 hp fun w3 hR3 hs3 => hk w3 r' hR3 ((hc2.mono fun _ => .inl).trans (.of_step hs3 fun k hk => .inr hk)) fun b hb => by
    rcases hn2 with h2 | h2
    · left; unfold oB; rw [← h2]; exact hb
    · right; exact Nat.le_trans hE1.size_le (h2 b hb)

theorem rowsI_blank {w : World} {base k : Nat} {s : Sl} (h : OwnL w base T.t_sl_int s (List.replicate k (⟨none, 0, 0⟩ : Sl))) : RowsD w base T.t_int T.t_sl_int s (List.replicate k ([] : List Int)) (List.replicate k ⟨none, 0, 0⟩) :=
  ⟨h, by simp, fun i r l hr hl => by
    rw [List.eq_of_mem_replicate (List.mem_of_getElem? hr), List.eq_of_mem_replicate (List.mem_of_getElem? hl)]; exact OwnL.nil _ _ _, fun i j r q hr _ _ k hk => by
    rw [List.eq_of_mem_replicate (List.mem_of_getElem? hr)] at hk; cases hk⟩

/-! ### The program's side -/

theorem stepAny_ok {n : Net} (hg : Good n) {q : Int} {d : Nat} {l : List Int} (hlen : l.length = n.ends.length) {w : World} {sV : Sl} {p12 p23 p21 : Addr} {t1 t2 t3 : TypeId} {v X : Nat} (hV : R w sV (valT q d l l.length 0)) (h12 : Box w p12 t1 [sV.v]) (h23 : Box w p23 t2 [.int .i64 X]) (h21 : Box w p21 t3 [.int .i64 v]) (hv : v < n.ends.length) (hX : X < q.toNat) :
    AnswersG argsE w (.func (.func F.i_polynomialStep_1) #[] #[.pointer (some p12), .pointer (some p23), .pointer (some p21)]) n.ends[v] (fun e => valC q d (l.getD e.1.toNat 0) X == valC q d (l.getD v 0) X) := by
  intro e he w' hE
  replace hV := hV.ext hE
  replace h12 := h12.ext hE
  replace h23 := h23.ext hE
  replace h21 := h21.ext hE
  obtain ⟨i, hi, rfl⟩ := List.mem_iff_getElem.1 he
  obtain ⟨x, y, hxy, hx, _⟩ := hg.far hv hi
  rw [hxy]
  have hTl := valT_len q d l l.length 0
  refine CALLV_mk (by kernel_rfl) ?_
  refine C_i_polynomialStep_1 ?_
  unfold V_i_polynomialStep_1
  refine NEW_intro fun pe w1 hpe hse hE1 hbe => ?_
  replace hV := hV.ext hE1
  replace h12 := h12.ext hE1
  replace h23 := h23.ext hE1
  replace h21 := h21.ext hE1
  refine LD_bs h12 (LD_bi0 hbe ?_)
  refine hV.ixL (i := x) (by omega) fun q1 s1 hR1 hc => LD_sl hc (LD_bi h23 ?_)
  rw [valT_all] at hR1
  refine hR1.any.ixI (i := X) (by rw [fullR_len]; exact hX) fun q2 _ hc2 => LD_int hc2 (LD_bs h12 (LD_bi h21 ?_))
  refine hV.ixL (i := v) (by omega) fun q3 s3 hR3 hc3 => LD_sl hc3 (LD_bi h23 ?_)
  rw [valT_all] at hR3
  refine hR3.any.ixI (i := X) (by rw [fullR_len]; exact hX) fun q4 _ hc4 => LD_int hc4 ?_
  intro w2 hE2
  rw [fullR_get, fullR_get]
  exact ⟨rfl, hE1.trans hE2⟩

theorem any_free {n : Net} {q : Int} {d : Nat} {l : List Int} {v X : Nat} (hv : v < n.ends.length) : (n.ends[v].any fun e => valC q d (l.getD e.1.toNat 0) X == valC q d (l.getD v 0) X) = !freeAt q d (l.getD v 0) (nearOf n.ends l v) X := by
  unfold freeAt nearOf
  rw [rowOf_get hv, List.all_map, List.not_all_eq_any_not]
  congr 1
  funext e
  simp [bne]

theorem polynomialStep_ok {w : World} {a b c s : Sl} {n : Net} {l : List Int} {k g : Int} (h : RNet w a b c n) (hl : R w s l) (hC : ColK n l k g) :
    Calls Tryz.prog F.i_polynomialStep #[.agg #[a.v, b.v, c.v], s.v, .int .i64 k, .int .i64 g] w (Ret [.at .sl, .at (.int .i64)] fun (r : Sl) (x : Int) w' => ∃ (q : Int) (d : Nat), PP k g q d ∧ x = q * q ∧ Ext w w' ∧ OwnL w' w.heap.size T.t_int r (stepP n.ends q d l)) := by
  have hg := hC.good
  have h40 := hg.size.2
  have hlen := hC.len
  refine C_i_polynomialStep ?_
  unfold V_i_polynomialStep
  refine NEW_intro fun p w1 hp hs hE hb1 => ?_
  replace h := h.ext hE
  replace hl := hl.ext hE
  refine call (polynomialParameters_ok k g hC.pal.1 hC.pal.2 hC.bound.1 hC.bound.2 w1) ?_
  rintro q _ _ ⟨⟨d, rfl, hP⟩, rfl⟩
  change Int at q
  have hok := stepAt_I64 hC hP
  have hl40 : (stepP n.ends q d l).length = n.ends.length := by simp [stepP]
  have hq2 := hP.1.1
  have hq43 := hP.le43 hC.pal.2 hC.bound
  have hd40 := hP.deg hC.pal.2 hC.bound
  have hqq : 0 ≤ q * q ∧ q * q ≤ 43 * 43 := ⟨Int.mul_nonneg (by omega) (by omega), Int.mul_le_mul hq43 hq43 (by omega) (by omega)⟩
  have hTl := fun v x => valT_len q d l v x
  rw [hl.len]
  refine RUN_make (α := Sl) slt_rows (d := ⟨none, 0, 0⟩) rfl (by omega) (by unfold maxLen; omega) fun sV w2 hE2 hO2 => ?_
  refine NEW_ST (one1s sV) rfl fun p12 w3 hp12 hE3 hb12 => ?_
  have hE13 := hE2.trans hE3
  have hR3 := rowsI_blank (hO2.ext hE3)
  rw [← valT_zero q d l] at hR3
  have hdw : IntKind.i64.wrap ((d : Int) + 1) = ((d + 1 : Nat) : Int) := by rw [wrap_of (by omega) (by omega)]; omega
  have hqt : (q.toNat : Int) = q := by omega
  refine ⟨IN l.length fun v w' => Ext w1 w' ∧ Box w' p12 T.t_sl_sl_int [sV.v] ∧ ∃ ss, RowsD w' w1.heap.size T.t_int T.t_sl_int sV (valT q d l v 0) ss, MN l.length, IN_zero ⟨hE13, hb12, _, hR3⟩, ?_⟩
  rintro _ w6 ⟨v, rfl, hv, hE6, hb6, ss6, hR6⟩
  intros
  refine cond_dec (fun hlt => ?_) (fun hge => ?_)
  · have hv' : v < l.length := by omega
    refine (hl.ext hE6).ixI hv' fun q1 h64 hc => LD_int hc ?_
    have hlv := hC.all _ (List.getElem_mem hv')
    rw [hdw]
    refine call (DigitsOf_ok hq2 (by omega) hlv.1 (by have := hC.pal; omega) (by omega) (by have := hP.2.2.1.2.2; omega) w6) ?_
    rintro r7 _ w7 ⟨hE7, hO7⟩
    have hdr : ∀ y ∈ dg q (d + 1) l[v], 0 ≤ y ∧ y < q := dg_range (by omega) _ _
    have hR7 := (hO7.rep fun y hy => by have := hdr y hy; show I64 y; unfold I64; omega).any
    have hdok : ∀ y ∈ dg q (d + 1) l[v], I64 y := fun y hy => by have := hdr y hy; unfold I64; omega
    have hz6 := hE6.size_le
    have hz7 := hE7.size_le
    refine ⟨IN q.toNat fun x w' => Ext w1 w' ∧ Box w' p12 T.t_sl_sl_int [sV.v] ∧ w7.heap.size ≤ w'.heap.size ∧ OwnL w' w6.heap.size T.t_int r7 (dg q (d + 1) l[v]) ∧ ∃ ss, RowsD w' w1.heap.size T.t_int T.t_sl_int sV (valT q d l v x) ss ∧ ∀ r, ss[v]? = some r → ∀ b, oB r b → ¬ oB r7 b, MN q.toNat, IN_zero ⟨hE6.trans hE7, hb6.ext hE7, Nat.le_refl _, hO7, _, hR6.ext hE7, fun r hr b hb hb7 => ?_⟩, ?_⟩
    · obtain ⟨r', hr', hO'⟩ := hR6.at (i := v) (by rw [hTl]; exact hv')
      rw [hr] at hr'; cases hr'
      have h1 := (hO'.blk b hb).2
      have h2 := (hO7.blk b hb7).1
      omega
    rintro _ w8 ⟨x, rfl, hx, hE8, hb8, hz8, hO8, ss8, hV8, hap8⟩
    intros
    refine cond_dec (fun hlt2 => ?_) (fun hge2 => ?_)
    rotate_left
    · have : x = q.toNat := by omega
      subst this
      rw [valT_next] at hV8
      exact IN_next (by omega) hv' ⟨hE8, hb8, ss8, hV8⟩
    have hx' : x < q.toNat := by omega
    refine call (PolynomialAt_ok (x := (x : Int)) (hO8.rep hdok).any hP.1 (by omega) (by omega) (by omega) (by rw [dg_len]; omega) hdr) ?_
    rintro _ _ w9 ⟨rfl, hE9⟩
    rw [valC_dg]
    intro w10 hE10 _
    have hE810 := hE9.trans hE10
    replace hE8 := hE8.ext hE810
    replace hb8 := hb8.ext hE810
    replace hO8 := hO8.ext hE810
    replace hV8 := hV8.ext hE810
    have hrow := valT_row q d l (x := x) hv'
    obtain ⟨r, hr, hOr⟩ := hV8.at (i := v) (by rw [hTl]; exact hv')
    have hnr : ¬ oB r p12.block := hb8.notOwn hOr (by decide)
    have h64v : I64 (valC q d l[v] x) := by have := valC_range (show 0 < q by omega) d l[v] x; unfold I64; omega
    refine ⟨oB r, hnr, LD_bs hb8 ⟨hnr, LD_bs hb8 ?_⟩⟩
    refine hV8.ix (by rw [hTl]; exact hv') fun p63 r' hr' hO' hc63 hb63 => ?_
    have : r' = r := by rw [hr] at hr'; cases hr'; rfl
    subst this
    refine ⟨fun hh => hV8.block_ne (by decide) hr hh hb63, LD_sl hc63 ⟨Chg.refl _ _, ?_⟩⟩
    refine snocI hV8 hE8.size_le hrow hr (by rw [List.length_take, fullR_len]; omega) h64v fun w13 r'' hV13 hC13 hn13 => ?_
    rw [valT_set q d l hv' hx'] at hV13
    have hns : ¬ oB sV p12.block := hb8.notOwn hV8.own (by decide)
    have hC1 : ∀ b, oB r' b ∨ oB sV b → w1.heap.size ≤ b := fun b hb => by
      rcases hb with hb | hb
      · exact (hOr.blk b hb).1
      · exact (hV8.own.blk b hb).1
    have hr7s : ∀ b, oB r7 b → ¬ oB sV b := fun b hb hb' => by
      obtain ⟨c1, e1⟩ := hO8.type hb
      obtain ⟨c2, e2⟩ := hV8.own.type hb'
      rw [e1] at e2
      exact absurd (Obj.cells.inj (Option.some.inj e2)).2.1 (by decide)
    refine IN_next (by omega) hx' ⟨hC13.ext0 hE8 hC1, hb8.chg hC13 (fun hh => hh.elim hnr hns), Nat.le_trans (Nat.le_trans hz8 hE810.size_le) hC13.size, hO8.chg hC13 (fun b hb hh => hh.elim (fun h1 => hap8 r' hr b h1 hb) (hr7s b hb)), _, hV13, fun q1 hq1 b hb hb7 => ?_⟩
    have hvs : v < ss8.length := by rw [hV8.len, hTl]; exact hv'
    rw [List.getElem?_set_self hvs] at hq1
    cases hq1
    rcases hn13 b hb with h1 | h1
    · exact hap8 r' hr b h1 hb7
    · have := (hO8.blk b hb7).2
      omega
  · have hvl : v = l.length := by omega
    subst hvl
    clear hR3 hb12 hE13
    have hE06 := hE.trans hE6
    have hT64 := valT_I64 hq2 (show q ≤ 1000 by omega) d l l.length 0
    have hV6 := (hR6.rep hT64).below
    have h6 := h.ext hE6
    refine LD_bs0 (hb1.ext hE6) ?_
    rw [h.1.len]
    refine ⟨IN2 n.ends.length fun v out w' => Ext w6 w' ∧ OwnL w' w6.heap.size T.t_int out ((stepP n.ends q d l).take v), MN2 n.ends.length, IN2_zero ⟨Ext.refl _, by simpa using OwnL.nil _ _ _⟩, ?_⟩
    rintro out _ w14 ⟨v, rfl, hv', hE14, hO14⟩
    intros
    refine cond_dec (fun hlt => ?_) (fun hge2 => ?_)
    rotate_left
    · have : v = n.ends.length := by omega
      subst this
      rw [← hl40, List.take_length] at hO14
      rw [wrap_of (n := q * q) (by omega) (by omega)]
      exact ⟨q, d, hP, rfl, hE06.trans hE14, hO14.low hE06.size_le⟩
    have hvn : v < n.ends.length := by omega
    have hvl : v < l.length := by omega
    have hgv : l.getD v 0 = l[v] := by simp [hvl]
    obtain ⟨hn1, hn2, hn3⟩ := hC.near hvn
    obtain ⟨ht1, ht2, ht3⟩ := take_spec hP hn3 hn1 hn2
    refine (h6.ext hE14).1.ixL hvn fun q1 s1 hR1 hc => LD_sl hc ?_
    refine NEW_ST (t := T.t_int) (zs := [.int .i64 0]) (vs := [.int .i64 (v : Int)]) (by intro y hy; simp at hy; subst hy; rfl) rfl fun p21 w16 hp21 hE16 hb21 => ?_
    refine NEW_ST (t := T.t_int) (zs := [.int .i64 0]) (vs := [.int .i64 0]) (by intro y hy; simp at hy; subst hy; rfl) rfl fun p23 w18 hp23 hE18 hb23 => ?_
    have hz16 := hE16.size_le
    have hz14 := hE14.size_le
    have hE1418 := hE16.trans hE18
    have hb21a := hb21.ext hE18
    have hlt21 := hb21.lt
    have htk := stepP_take n.ends q d l hvn
    have hce : takeC q d (l.getD v 0) (nearOf n.ends l v) = (takeX q d (l.getD v 0) (nearOf n.ends l v) : Int) * q + valC q d (l.getD v 0) (takeX q d (l.getD v 0) (nearOf n.ends l v)) := rfl
    generalize hZ : takeX q d (l.getD v 0) (nearOf n.ends l v) = Z at *
    obtain ⟨m, hm1, hm2⟩ := ghost (α := Unit) (fun (X : Nat) (_ : Unit) w' => Ext w14 w' ∧ X ≤ Z ∧ Box w' p23 T.t_int [.int .i64 (X : Int)] ∧ Box w' p21 T.t_int [.int .i64 (v : Int)]) (fun X => Z - X)
    refine ⟨fun w' => ∃ X : Nat, Ext w14 w' ∧ X ≤ Z ∧ Box w' p23 T.t_int [.int .i64 (X : Int)] ∧ Box w' p21 T.t_int [.int .i64 (v : Int)], m (), ⟨0, hE1418, by omega, hb23, hb21a⟩, ?_⟩
    intro w19 hI19
    obtain ⟨X, ⟨hE19, hX, hb23b, hb21b⟩, hmX⟩ := hm1 () w19 hI19
    intros
    have hE619 := hE14.trans hE19
    refine call (containsFuncE_ok (hR1.ext hE19) (stepAny_ok hg hlen ((hV6.ext hE619).any) (hb6.ext hE619) hb23b hb21b hvn (by omega))) ?_
    rintro _ w20 ⟨rfl, hE20⟩
    rw [any_free hvn]
    have hb23c := hb23b.ext hE20
    have hb21c := hb21b.ext hE20
    have hE1420 := hE19.trans hE20
    have h23lt : w14.heap.size ≤ p23.block := by rw [hp23]; omega
    have h21lt : w14.heap.size ≤ p21.block := by rw [hp21]; omega
    have hne : p21.block ≠ p23.block := by rw [hp23]; omega
    refine cond_not (fun hfr => ?_) (fun hfr => ?_)
    · have hlt : X < Z := by
        rcases Nat.lt_or_eq_of_le hX with h1 | h1
        · exact h1
        · rw [h1, ht2] at hfr; cases hfr
      refine LD_bi hb23c ?_
      rw [wrap_of (n := (X : Int) + 1) (by omega) (by omega), show (X : Int) + 1 = ((X + 1 : Nat) : Int) by omega]
      refine ST_all hb23c (by intro y hy; simp at hy; subst hy; rfl) rfl fun w21 hs21 _ hb23d => ?_
      have hnew : Ext w14 w21 ∧ X + 1 ≤ Z ∧ Box w21 p23 T.t_int [.int .i64 ((X + 1 : Nat) : Int)] ∧ Box w21 p21 T.t_int [.int .i64 (v : Int)] :=
        ⟨hs21.ext0 hE1420 (fun k hk => by cases hk; exact h23lt), by omega, hb23d, hb21c.of_block (hs21.block _ hb21c.lt fun he => hne (Option.some.inj he))⟩
      refine ⟨⟨X + 1, hnew⟩, ?_⟩
      have h1 := hm2 (X + 1) () w21 hnew
      omega
    · have hXZ : X = Z := by
        rcases Nat.lt_or_eq_of_le hX with h1 | h1
        · rw [ht3 X h1] at hfr; cases hfr
        · exact h1
      subst hXZ
      intro w22 hE22 _
      have hE1422 := hE1420.trans hE22
      have hE622 := hE14.trans hE1422
      have hb23e := hb23c.ext hE22
      have hb21e := hb21c.ext hE22
      have hb12e := hb6.ext hE622
      have hVe := hV6.ext hE622
      have hOe := hO14.ext hE1422
      have hno : ∀ b, (b < w6.heap.size ∨ w14.heap.size ≤ b) → ¬ oB out b := fun b hb hh => by
        have h1 := (hO14.blk b hh).1
        have h2 := (hO14.blk b hh).2
        omega
      have hvT : v < (valT q d l l.length 0).length := by rw [hTl]; exact hvl
      refine ⟨oB out, hno _ (.inr h23lt), LD_bi hb23e ⟨hno _ (.inl hb6.lt), LD_bs hb12e ⟨hno _ (.inr h21lt), LD_bi hb21e ?_⟩⟩⟩
      refine ixLD hVe hvT fun p90 s90 hR90 hc90 hb90 => ⟨hno _ (.inl hb90.2), LD_sl hc90 (LD_bi hb23e ⟨Chg.refl _ _, ?_⟩)⟩
      rw [valT_all] at hR90
      refine hR90.any.ixI (i := X) (by rw [fullR_len]; exact ht1) fun p93 _ hc93 => ⟨Chg.refl _ _, LD_int hc93 ⟨Chg.refl _ _, Chg.refl _ _, ?_⟩⟩
      rw [fullR_get]
      have hv0 := valC_range (show 0 < q by omega) d (l.getD v 0) X
      have h6' : (X : Int) * q ≤ 43 * 43 := Int.mul_le_mul (by omega) hq43 (by omega) (by omega)
      have h7' : 0 ≤ (X : Int) * q := Int.mul_nonneg (by omega) (by omega)
      rw [wrap_of (n := (X : Int) * q) (by omega) (by omega), wrap_of (n := (X : Int) * q + valC q d (l.getD v 0) X) (by omega) (by omega), ← hce]
      have h64t : I64 (takeC q d (l.getD v 0) (nearOf n.ends l v)) := by rw [hce]; unfold I64; omega
      refine RUN_lit1 (α := Int) slt_int (takeC q d (l.getD v 0) (nearOf n.ends l v)) rfl (by decide) fun r7 w23 hE23 hO7 => ⟨.of_ext hE23, ?_⟩
      have hE1423 := hE1422.trans hE23
      refine RUN_append (α := Int) slt_int (hO14.ext hE1423) (Nat.le_trans hz14 hE1423.size_le) (hO7.rep (by intro z hz; simp at hz; subst hz; exact h64t)).any (by simp; omega) (by simp [maxLen]; omega) fun r' w24 hO24 hs24 => ?_
      refine ⟨(Chg.of_ext hE23).trans (.of_step hs24 fun k hk => hk), ?_⟩
      refine IN2_next (by omega) hvn ⟨hs24.ext0 (hE14.trans hE1423) (fun k hk => ((hO14.ext hE1423).blk k hk).1), ?_⟩
      rw [htk]
      exact hO24

/-! ### The statement's answers -/

structure AnsPS (n : Net) (l : List Int) (k g : Int) (y : List Int × Int) (b : Bool) : Prop where
  ok : b = true ↔ PalAsked n l k g
  yes : b = true → ∃ q d, PP k g q d ∧ y = (stepP n.ends q d l, q * q)
  no : b = false → y = ([], 0)

theorem AnsPS.eq {n : Net} {l : List Int} {k g : Int} {y y' : List Int × Int} {b b' : Bool} (h : AnsPS n l k g y b) (h' : AnsPS n l k g y' b') : y = y' ∧ b = b' := by
  have hoo : b = b' := by rw [Bool.eq_iff_iff, h.ok, h'.ok]
  subst hoo
  refine ⟨?_, rfl⟩
  cases b with
  | false => rw [h.no rfl, h'.no rfl]
  | true =>
    obtain ⟨q, d, h1, h2⟩ := h.yes rfl
    obtain ⟨q', d', h1', h2'⟩ := h'.yes rfl
    obtain ⟨rfl, rfl⟩ := PP_unique h1 h1'
    rw [h2, h2']

theorem AnsPS.none {n : Net} {l : List Int} {k g : Int} (h : ¬ PalAsked n l k g) : AnsPS n l k g ([], 0) false := ⟨by simp [h], fun hh => (by cases hh), fun _ => rfl⟩

end Go.Proofs.YtoeaoinedidbiaaGreat
