/- Own texts, merged: Split, ElimS1, Elim3, ElimS2, ElimE, Stable, Dist, Far, Dom, ConfMapPure, ConfMap. -/
import Derived.Test.YtlmiookpmneicaaGreatM5
section
/- Products of problems and what their labelings stand for, both sides. -/
namespace Go.GX
open Go.RowKit

theorem RUN_append_rowG {α : Type} [Flat α] {P : Program} {t e e' : TypeId} {bytes : Nat} {z : Value} (hT : SlT P t e' 1 bytes z) (hne : e ≠ e') {w : World} {base b1 : Nat} {s y r : Sl} {ls : List (List α)} {l : List α} (h : Own2 w base e e' s ls) (hbase : base ≤ w.heap.size)
    (hr : OwnL w base e r l) (hy : OwnL w b1 e' y [r]) (hlen : (ls.length + 1) * bytes ≤ 140737488355328) (hmax : ls.length + 1 ≤ maxLen) {K : Sl → World → Prop}
    (hk : ∀ s' w', Own2 w' base e e' s' (ls ++ [l]) → Step w w' s.v.ownBlock → NewOr w s s' → K s' w') : RUN P (.at .sl) (bsem .append #[t, t] t #[s.v, y.v]) w K := by
  obtain ⟨ss, h1, h2, h3⟩ := h
  refine RUN_appendF (α := Sl) hT h1 hbase (hy.rep fun _ _ => trivial).any (by simp [h2]; exact hlen) (by simp [h2]; exact hmax) fun s' w' hO hs hn => hk s' w' ⟨ss ++ [r], hO, by simp [h2], fun i q m hq hm => ?_⟩ hs hn
  by_cases hi : i < ss.length
  · rw [List.getElem?_append_left hi] at hq
    rw [List.getElem?_append_left (by omega)] at hm
    exact (h3 i q m hq hm).step h1 hne hs
  · rw [List.getElem?_append_right (by omega)] at hq
    rw [List.getElem?_append_right (by omega), ← h2] at hm
    have : i - ss.length = 0 := by
      have := (List.getElem?_eq_some_iff.1 hq).1
      simp at this; omega
    rw [this] at hq hm
    simp at hq hm
    subst hq; subst hm
    exact hr.step h1 hne hs

end Go.GX
namespace Go.Proofs.YtlmiookpmneicaaGreat
open Go.GX Go.RowKit
set_option maxRecDepth 100000

theorem reHalves_ok {w : World} {s : Sl} {l : List Int} {k : Int} (h : R w s l) (hl : l.length ≤ 1048576) (hv : ∀ x ∈ l, 0 ≤ x ∧ x ≤ 1000) (hk : 1 ≤ k) :
    Calls Tryz.prog F.s_reHalves #[s.v, .int .i64 k] w (Ret [.at .sl, .at .sl] fun (a b : Sl) w' => Ext w w' ∧ OwnL w' w.heap.size T.t_int a (firsts k l) ∧ OwnL w' w.heap.size T.t_int b (seconds k l) ∧ Apt a b) := by
  refine C_s_reHalves ?_
  unfold V_s_reHalves
  rw [h.len]
  refine ⟨fun (a b : Sl) (x : Int) w' => ∃ i : Nat, x = i ∧ i ≤ l.length ∧ Divs w w.heap.size k l i a b w', fun _ _ x _ => l.length - x.toNat, ⟨0, rfl, Nat.zero_le _, Ext.refl _, OwnL.nil _ _ _, OwnL.nil _ _ _, fun k hk => by cases hk⟩, ?_⟩
  rintro a b _ w1 ⟨i, rfl, hi, hE1, hA, hB, hap⟩
  intros
  have hst : ∀ j, j ≤ l.length → (firsts k (l.take j)).length = j ∧ (seconds k (l.take j)).length = j := fun j hj => by simp [firsts, seconds]; omega
  refine cond_dec (fun hlt => ?_) (fun hge => ?_)
  · have hi' : i < l.length := by omega
    refine (h.ext hE1).ixI hi' fun q _ hc => LD_int hc ?_
    obtain ⟨hd1, hd2, hd3⟩ := div_I64 (hv _ (List.getElem_mem hi')) hk
    rw [hd3]
    have hl1 := hst i hi
    have o1 : ∀ {v : Int}, I64 v → ∀ x ∈ [v], Flat.ok x := fun hv x hx => by rw [List.mem_singleton.1 hx]; exact hv
    have hz := hE1.size_le
    refine ⟨by omega, ?_⟩
    refine RUN_lit1 (α := Int) slt_int _ rfl (by decide) fun x3 w3 hE3 hO3 => ?_
    refine app_first (hA.ext hE3) (hB.ext hE3) hap (by have := hE3.size_le; omega) (hO3.rep (o1 hd1)).any (by omega) fun a' w4 hA4 hB4 hap4 hC4 _ => ⟨by omega, ?_⟩
    have hC24 := (Chg.of_ext hE3).trans hC4
    have hz4 := hC24.size
    refine RUN_lit1 (α := Int) slt_int _ rfl (by decide) fun x5 w5 hE5 hO5 => ?_
    refine app_first (hB4.ext hE5) (hA4.ext hE5) hap4.symm (by have := hE5.size_le; omega) (hO5.rep (o1 hd2)).any (by omega) fun b' w6 hB6 hA6 hap6 hC6 _ => ?_
    have hC26 := (hC24.trans (.of_ext hE5)).trans hC6
    rw [wrap_of (by omega) (by omega)]
    refine ⟨⟨i + 1, by omega, hi', hC26.ext0 hE1 fun _ hb => hb, ?_, ?_, hap6.symm⟩, by simp only []; omega⟩
    · unfold firsts at hA6 ⊢; rw [map_take_succ hi']; exact hA6
    · unfold seconds at hB6 ⊢; rw [map_take_succ hi']; exact hB6
  · have : i = l.length := by omega
    subst this
    rw [List.take_length] at hA hB
    exact ⟨hE1, hA, hB, hap⟩

theorem fs_I64 {k : Int} {l : List Int} (hv : ∀ x ∈ l, 0 ≤ x ∧ x ≤ 1000) (hk : 1 ≤ k) : (∀ x ∈ firsts k l, I64 x) ∧ ∀ x ∈ seconds k l, I64 x := by
  constructor
  · intro x hx
    obtain ⟨y, hy, rfl⟩ := List.mem_map.1 hx
    exact (div_I64 (hv y hy) hk).1
  · intro x hx
    obtain ⟨y, hy, rfl⟩ := List.mem_map.1 hx
    exact (div_I64 (hv y hy) hk).2.1

theorem filter_take_succ {α : Type} {l : List α} {i : Nat} (hi : i < l.length) (p : α → Bool) : (l.take (i + 1)).filter p = (l.take i).filter p ++ (if p l[i] then [l[i]] else []) := by
  rw [List.take_succ_eq_append_getElem hi, List.filter_append]
  by_cases h : p l[i] = true
  · simp [h]
  · simp [h]

theorem reProduct_ok {w : World} {s t : Sl} {L M : List (List Int)} {n k : Nat} {d : Int} (h : R w s L) (h' : R w t M) (hn : n ≤ 1000) (hk : k ≤ 1000) (hnk : ∀ j, j ≤ k → n ^ j ≤ 1048576 - 1000) (hd : 1 ≤ d) :
    Calls Tryz.prog F.s_reProduct #[s.v, t.v, .int .i64 n, .int .i64 k, .int .i64 d] w (Ret [.at .sl] fun (r : Sl) w' => Ext w w' ∧ ∃ base, w.heap.size ≤ base ∧ Own2 w' base T.t_int T.t_sl_int r ((msets n k).filter fun c => decide (sortI (firsts d c) ∈ L) && decide (sortI (seconds d c) ∈ M))) := by
  refine C_s_reProduct ?_
  unfold V_s_reProduct
  refine call (reChoices_ok w hn hk hnk) ?_
  rintro x w1 ⟨hE1, ss, hM⟩
  have hmem : ∀ c ∈ msets n k, ∀ x ∈ c, 0 ≤ x ∧ x ≤ 1000 := fun c hc x hx => by have := (mem_msets.1 hc).labs x hx; omega
  have h64 : ∀ r ∈ msets n k, ∀ x ∈ r, I64 x := fun r hr x hx => by have := hmem r hr x hx; unfold I64; omega
  have hml := Nat.le_trans (msets_len n k) (hnk k (Nat.le_refl _))
  have hR := hM.rep h64
  rw [hR.len]
  let p : List Int → Bool := fun c => decide (sortI (firsts d c) ∈ L) && decide (sortI (seconds d c) ∈ M)
  have hz1 := hE1.size_le
  refine ⟨IN2 (msets n k).length fun i (out : Sl) w' => Ext w1 w' ∧ Own2 w' w.heap.size T.t_int T.t_sl_int out (((msets n k).take i).filter p) ∧ ∀ b, oB out b → w1.heap.size ≤ b, MN2 (msets n k).length, IN2_zero ⟨Ext.refl _, by simpa using Own2.nil _ _ _ _, fun b hb => by cases hb⟩, ?_⟩
  rintro out _ w2 ⟨i, rfl, hi, hE2, hO, hob⟩
  intros
  refine cond_dec (fun hlt => ?_) (fun hge => ?_)
  · have hi' : i < (msets n k).length := by omega
    have hlen := (mem_msets.1 (List.getElem_mem hi')).len
    have hvi := hmem _ (List.getElem_mem hi')
    obtain ⟨hf1, hf2⟩ := fs_I64 hvi hd
    refine (hM.ext hE2).ix hi' fun q row hrow hOr hc _ => LD_sl hc ?_
    refine call (reHalves_ok (hOr.rep (h64 _ (List.getElem_mem hi'))).any (by omega) hvi hd) ?_
    rintro a b w3 ⟨hE3, hA, hB, _⟩
    have hfl : (firsts d (msets n k)[i]).length = k := by simp [firsts, hlen]
    have hsl : (seconds d (msets n k)[i]).length = k := by simp [seconds, hlen]
    refine call (prSorted_ok (hA.rep hf1).any (by omega)) ?_
    rintro x4 w4 ⟨hE4, hO4⟩
    have hE24 := hE3.trans hE4
    refine call (prHas_ok (((h.ext hE1).ext hE2).ext hE24) (hO4.rep (sortI_I64 hf1)).any) ?_
    rintro _ w5 ⟨rfl, hE5⟩
    have hE25 := hE24.trans hE5
    have hno : ∀ {w'}, Ext w2 w' → p (msets n k)[i] = false → IN2 (msets n k).length (fun i (out : Sl) w' => Ext w1 w' ∧ Own2 w' w.heap.size T.t_int T.t_sl_int out (((msets n k).take i).filter p) ∧ ∀ b, oB out b → w1.heap.size ≤ b) out (IntKind.i64.wrap ((i : Int) + 1)) w' ∧ MN2 (msets n k).length out (IntKind.i64.wrap ((i : Int) + 1)) w' < MN2 (msets n k).length out (i : Int) w2 := fun {w'} hE' hp => by
      refine IN2_next hR.le hi' ⟨hE2.trans hE', ?_, hob⟩
      rw [filter_take_succ hi', hp]
      simpa using hO.ext hE'
    refine cond_dec (fun hin => ?_) (fun hnin => hno hE25 (by simp [p, hnin]))
    refine call (prSorted_ok ((hB.ext (hE4.trans hE5)).rep hf2).any (by omega)) ?_
    rintro x6 w6 ⟨hE6, hO6⟩
    have hE26 := hE25.trans hE6
    refine call (prHas_ok (((h'.ext hE1).ext hE2).ext hE26) (hO6.rep (sortI_I64 hf2)).any) ?_
    rintro _ w7 ⟨rfl, hE7⟩
    have hE27 := hE26.trans hE7
    refine cond_dec (fun hin2 => ?_) (fun hnin2 => hno hE27 (by simp [p, hnin2]))
    refine RUN_lit1 (α := Sl) slt_rows row rfl (by decide) fun y w8 hE8 hO8 => ?_
    have hE28 := hE27.trans hE8
    have hO28 := hO.ext hE28
    have hz2 := hE2.size_le
    have hz8 := hE28.size_le
    have hfl2 : (((msets n k).take i).filter p).length ≤ i := Nat.le_trans (List.length_filter_le _ _) (by rw [List.length_take]; omega)
    have hg : ∀ b, out.v.ownBlock = some b → w1.heap.size ≤ b := hob
    refine RUN_append_rowG slt_rows (by decide) hO28 (by omega) (hOr.ext hE28) hO8 (by omega) (by unfold maxLen; omega) fun s' w9 hO9 hs9 hn9 => ?_
    refine IN2_next hR.le hi' ⟨hs9.ext0 (hE2.trans hE28) fun b hb => hob b hb, ?_, fun b hb => ?_⟩
    · rw [filter_take_succ hi', show p (msets n k)[i] = true by simp [p, hin, hin2]]
      exact hO9
    · rcases hn9 with h1 | h1
      · exact hob b (by unfold oB at hb ⊢; rw [← h1]; exact hb)
      · have := h1 b hb; omega
  · have : i = (msets n k).length := by omega
    subst this
    rw [List.take_length] at hO
    exact ⟨hE1.trans hE2, _, Nat.le_refl _, hO⟩

/-! ### The product -/

theorem pow_small {n k : Nat} (hn : n ≤ 8) (hk : k ≤ 4) : ∀ j, j ≤ k → n ^ j ≤ 1048576 - 1000 := fun j hj => by
  have h1 : n ^ j ≤ 8 ^ j := Nat.pow_le_pow_left hn j
  have h2 : 8 ^ j ≤ 8 ^ 4 := Nat.pow_le_pow_right (by decide) (by omega)
  have h3 : 8 ^ 4 = 4096 := by decide
  omega

theorem inM_1000 {n k : Nat} {c : List Int} (h : InM n k c) (hn : n ≤ 1000) : ∀ x ∈ c, 0 ≤ x ∧ x ≤ 1000 := fun x hx => by have := h.labs x hx; omega

theorem product1_ok {w w' : World} {c d c' d' s : Sl} {p q : Prob} {pp pq : Addr} {t : TypeId} {n k : Nat} {l : List Int} (h : RProb w c d p) (h' : RProb w c' d' q) (hp : PGood p) (hq : PGood q) (hsp : SmallP p) (hsq : SmallP q)
    (hbp : Box w pp t [.int .i64 p.labels, .int .i64 p.degree, c.v, d.v]) (hbq : Box w pq t [.int .i64 q.labels, .int .i64 q.degree, c'.v, d'.v]) (hn : n ≤ 1000) (hk : k ≤ 1000) (hM : InM n k l) (hE : Ext w w') (hl : R w' s l) :
    CALLV Tryz.prog (.func (.func F.i_ProductProblem_1) #[] #[.pointer (some pq), .pointer (some pp)]) #[s.v] w' (Ret [.at .bool] fun (b : Bool) w'' => b = (decide (sortI (firsts q.labels l) ∈ p.nodes) && decide (sortI (seconds q.labels l) ∈ q.nodes)) ∧ Ext w' w'') := by
  refine CALLV_mk (by kernel_rfl) (C_i_ProductProblem_1 ?_)
  unfold V_i_ProductProblem_1
  replace h := h.ext hE
  replace h' := h'.ext hE
  replace hbp := hbp.ext hE
  replace hbq := hbq.ext hE
  have hlen := hM.len
  have hlq := hq.lab
  have hv := inM_1000 hM hn
  obtain ⟨hf1, hf2⟩ := fs_I64 hv hlq.1
  refine LD_bi0 hbq ?_
  refine call (parts_ok hl (by omega) hv hlq.1) ?_
  rintro a b w1 ⟨hE1, hA, hB, _⟩
  replace h := h.ext hE1
  replace h' := h'.ext hE1
  replace hbp := hbp.ext hE1
  replace hbq := hbq.ext hE1
  refine LD_iiss hbp ?_
  refine call (node_ok h hsp hp (hA.rep hf1).any (by simp [firsts]; omega)) ?_
  rintro x w2 ⟨hx, hE2⟩
  have hE12 := hE1.trans hE2
  have ex : x = nodeB p (firsts q.labels l) := bool_of hx nodeB_iff
  subst ex
  refine cond_dec (fun hin => LD_iiss (hbq.ext hE2) ?_) (fun hnin => ⟨by simp [hnin], hE12⟩)
  refine call (node_ok (h'.ext hE2) hsq hq ((hB.ext hE2).rep hf2).any (by simp [seconds]; omega)) ?_
  rintro y w3 ⟨hy, hE3⟩
  have ey : y = nodeB q (seconds q.labels l) := bool_of hy nodeB_iff
  subst ey
  exact ⟨by simp [hin, nodeB], hE12.trans hE3⟩

theorem product2_ok {w w' : World} {c d c' d' s : Sl} {p q : Prob} {pp pq : Addr} {t : TypeId} {n : Nat} {l : List Int} (h : RProb w c d p) (h' : RProb w c' d' q) (hp : PGood p) (hq : PGood q) (hsp : SmallP p) (hsq : SmallP q)
    (hbp : Box w pp t [.int .i64 p.labels, .int .i64 p.degree, c.v, d.v]) (hbq : Box w pq t [.int .i64 q.labels, .int .i64 q.degree, c'.v, d'.v]) (hn : n ≤ 1000) (hM : InM n 2 l) (hE : Ext w w') (hl : R w' s l) :
    CALLV Tryz.prog (.func (.func F.i_ProductProblem_2) #[] #[.pointer (some pq), .pointer (some pp)]) #[s.v] w' (Ret [.at .bool] fun (b : Bool) w'' => b = (decide (sortI (firsts q.labels l) ∈ p.edges) && decide (sortI (seconds q.labels l) ∈ q.edges)) ∧ Ext w' w'') := by
  refine CALLV_mk (by kernel_rfl) (C_i_ProductProblem_2 ?_)
  unfold V_i_ProductProblem_2
  replace h := h.ext hE
  replace h' := h'.ext hE
  replace hbp := hbp.ext hE
  replace hbq := hbq.ext hE
  have hlen := hM.len
  have hlq := hq.lab
  have hv := inM_1000 hM hn
  obtain ⟨hf1, hf2⟩ := fs_I64 hv hlq.1
  refine LD_bi0 hbq ?_
  refine call (parts_ok hl (by omega) hv hlq.1) ?_
  rintro a b w1 ⟨hE1, hA, hB, _⟩
  replace h := h.ext hE1
  replace h' := h'.ext hE1
  replace hbp := hbp.ext hE1
  replace hbq := hbq.ext hE1
  have hRA := (hA.rep hf1).any
  have hRB := (hB.rep hf2).any
  have hfl : (firsts q.labels l).length = 2 := by simp [firsts, hlen]
  have hsl : (seconds q.labels l).length = 2 := by simp [seconds, hlen]
  generalize firsts q.labels l = F1 at *
  generalize seconds q.labels l = S1 at *
  match F1, hfl, S1, hsl with
  | [a0, a1], _, [b0, b1], _ =>
    have i1 := hf1 a0 (by simp)
    have i2 := hf1 a1 (by simp)
    have i3 := hf2 b0 (by simp)
    have i4 := hf2 b1 (by simp)
    refine LD_iiss hbp ?_
    refine hRA.ixI (i := 0) (by simp) fun q1 _ hc => LD_int hc ?_
    refine hRA.ixI (i := 1) (by simp) fun q1 _ hc => LD_int hc ?_
    refine QCALL_bool (edgeB p a0 a1) (edgeQ h hsp hp i1 i2) ?_
    refine cond_dec (fun hin => LD_iiss hbq ?_) (fun hnin w3 hE3 => ⟨by simp [hnin], hE1.trans hE3⟩)
    refine hRB.ixI (i := 0) (by simp) fun q1 _ hc => LD_int hc ?_
    refine hRB.ixI (i := 1) (by simp) fun q1 _ hc => LD_int hc ?_
    refine QCALL_bool (edgeB q b0 b1) (edgeQ h' hsq hq i3 i4) ?_
    intro w3 hE3
    exact ⟨by simp [hin, edgeB], hE1.trans hE3⟩

def PrIs (w : World) (p q : Prob) (x y : Int) (z u : Sl) (b : Bool) (w' : World) : Prop :=
  Ext w w' ∧ ((b = true ∧ TwoOk p q ∧ p.labels * q.labels ≤ 8 ∧ x = p.labels * q.labels ∧ y = p.degree ∧ RProb w' z u (prodP p q)) ∨ (b = false ∧ ¬ (TwoOk p q ∧ p.labels * q.labels ≤ 8)))

theorem mul_small {p q : Prob} (hT : TwoOk p q) : 1 ≤ p.labels * q.labels ∧ p.labels * q.labels ≤ 64 := by
  have h1 := hT.1.lab
  have h2 := hT.2.1.lab
  have h3 : 1 * 1 ≤ p.labels * q.labels := Int.mul_le_mul h1.1 h2.1 (by omega) (by omega)
  have h4 : p.labels * q.labels ≤ 8 * 8 := Int.mul_le_mul h1.2 h2.2 (by omega) (by omega)
  omega

theorem made_prob {w w' : World} {base : Nat} {px : Addr} {z u : Sl} {p q : Prob} (hs : Step w w' (some px.block)) (hlt : px.block < base) (hT : TwoOk p q) (h8 : p.labels * q.labels ≤ 8) (hz : Own2 w base T.t_int T.t_sl_int z (prodNodes p q)) (hu : Own2 w base T.t_int T.t_sl_int u (prodEdges p q)) : RProb w' z u (prodP p q) := by
  have hm := mul_small hT
  have hg := prod_good hT.1 hT.2.1 h8
  have hk : ∀ k, base ≤ k → k < w.heap.size → w'.heap[k]? = w.heap[k]? := fun k h1 h2 => hs.block k h2 (by intro he; cases he; omega)
  have i64 : ∀ {L : List (List Int)} {size : Int}, ConfOk L size (p.labels * q.labels) → ∀ r ∈ L, ∀ x ∈ r, I64 x := fun hC r hr x hx => by
    have := (confRow hC hr).2 x hx
    unfold I64; omega
  have hd := hT.1.deg
  exact ⟨by show I64 (p.labels * q.labels); unfold I64; omega, by show I64 p.degree; unfold I64; omega, (hz.keep hk).rep (i64 hg.nodes), (hu.keep hk).rep (i64 hg.edges)⟩

theorem ProductProblem_ok {w : World} {c d c' d' : Sl} {p q : Prob} (h : RProb w c d p) (h' : RProb w c' d' q) (hsp : SmallP p) (hsq : SmallP q) :
    Calls Tryz.prog F.i_ProductProblem #[.agg #[.int .i64 p.labels, .int .i64 p.degree, c.v, d.v], .agg #[.int .i64 q.labels, .int .i64 q.degree, c'.v, d'.v]] w (Ret [.agg [.int .i64, .int .i64, .sl, .sl], .at .bool] (PrIs w p q)) := by
  refine C_i_ProductProblem ?_
  unfold V_i_ProductProblem
  refine NEW_intro fun pp w1 hp1 hs1 hE1 hb1 => NEW_intro fun pq w2 hp2 hs2 hE2 hb2 => NEW_intro fun px w3 hp3 hs3 hE3 hb3 => ?_
  have hE := (hE1.trans hE2).trans hE3
  have hz3 := (hE1.trans hE2).size_le
  replace h := h.ext hE
  replace h' := h'.ext hE
  replace hb1 := hb1.ext hE2
  replace hb1 := hb1.ext hE3
  replace hb2 := hb2.ext hE3
  refine LD_iiss hb1 (LD_iiss hb2 ?_)
  refine call (areProblems_ok h h') ?_
  rintro x w4 ⟨hx, hE4⟩
  replace hE := hE.ext hE4
  replace h := h.ext hE4
  replace h' := h'.ext hE4
  replace hb1 := hb1.ext hE4
  replace hb2 := hb2.ext hE4
  replace hb3 := hb3.ext hE4
  have hno : ∀ {w' : World}, Ext w w' → Box w' px T.t_i_Problem [.int .i64 0, .int .i64 0, .slice none 0 0, .slice none 0 0] → ¬ (TwoOk p q ∧ p.labels * q.labels ≤ 8) → ST px 0 [.int .i64 0, .int .i64 0, .slice none 0 0, .slice none 0 0] w' fun w5 => LD [.int .i64, .int .i64, .sl, .sl] px w5 fun (a : Int) (b : Int) (e : Sl) (f : Sl) => PrIs w p q a b e f false w5 := fun {w'} hE' hb' hn => by
    refine ST_all hb' (one4p 0 0 ⟨none, 0, 0⟩ ⟨none, 0, 0⟩) rfl fun w5 hs5 hz5 hb5 => ?_
    exact LD_iiss (z := ⟨none, 0, 0⟩) (u := ⟨none, 0, 0⟩) hb5 ⟨hs5.ext0 hE' fun k hk => by cases hk; omega, .inr ⟨rfl, hn⟩⟩
  refine cond_not (fun hfa => hno hE hb3 fun hA => (by rw [hx.2 hA.1] at hfa; cases hfa)) (fun ht => LD_bi0 hb1 (LD_bi0 hb2 ?_))
  have hT := hx.1 ht
  have hm := mul_small hT
  have hd := hT.1.deg
  rw [wrap_of (by omega) (by omega)]
  refine cond_dec (fun hgt => hno hE hb3 fun hA => by omega) (fun hle => ?_)
  have h8 : p.labels * q.labels ≤ 8 := by omega
  unfold V_i_ProductProblem_k1
  refine LD_bi0 hb1 (LD_bi0 hb2 ?_)
  rw [wrap_of (by omega) (by omega)]
  intro w8 hE8 _
  replace hE := hE.ext hE8
  replace h := h.ext hE8
  replace h' := h'.ext hE8
  replace hb1 := hb1.ext hE8
  replace hb2 := hb2.ext hE8
  replace hb3 := hb3.ext hE8
  refine ⟨fun _ => False, fun h => h, LD_bi1 hb1 ⟨fun h => h, LD_bi1 hb1 ?_⟩⟩
  have en : p.labels * q.labels = (((p.labels * q.labels).toNat : Nat) : Int) := by omega
  have ek : p.degree = ((p.degree.toNat : Nat) : Int) := by omega
  have hgen : ∀ n : Nat, n = (p.labels * q.labels).toNat → n ≤ 8 := fun n hn => by omega
  rw [en]
  rw [ek]
  refine call (allowedBy_ok (p := fun l => decide (sortI (firsts q.labels l) ∈ p.nodes) && decide (sortI (seconds q.labels l) ∈ q.nodes)) (by omega) (by omega) (pow_small (by omega) (by omega)) fun l hM w' s hE' hl => product1_ok h h' hT.1 hT.2.1 hsp hsq hb1 hb2 (by omega) (by omega) hM hE' hl) ?_
  rintro z w9 ⟨hE9, ssz, hz⟩
  refine ⟨.of_ext hE9, ?_⟩
  have e2 : (2 : Int) = ((2 : Nat) : Int) := rfl
  rw [e2]
  refine call (allowedBy_ok (k := 2) (p := fun l => decide (sortI (firsts q.labels l) ∈ p.edges) && decide (sortI (seconds q.labels l) ∈ q.edges)) (by omega) (by omega) (pow_small (by omega) (by omega)) fun l hM w' s hE' hl => product2_ok (h.ext hE9) (h'.ext hE9) hT.1 hT.2.1 hsp hsq (hb1.ext hE9) (hb2.ext hE9) (by omega) hM hE' hl) ?_
  rintro u w10 ⟨hE10, ssu, hu⟩
  have hE810 := hE9.trans hE10
  refine ⟨.of_ext hE810, .of_ext hE810, ?_⟩
  have hb10 := hb3.ext hE810
  have hlt := hb3.lt
  refine ST_all hb10 (one4p _ _ _ _) rfl fun w11 hs11 hz11 hb11 => ?_
  refine LD_iiss hb11 ⟨hs11.ext0 (hE.trans hE810) fun k hk => by cases hk; omega, .inl ⟨rfl, hT, h8, by omega, by omega, ?_⟩⟩
  exact made_prob hs11 hlt hT h8 (hz.ext hE10).own2 (hu.own2.low hE9.size_le)

theorem sProductProblem_ok {w : World} {c d c' d' : Sl} {p q : Prob} (h : RProb w c d p) (h' : RProb w c' d' q) :
    Calls Tryz.prog F.s_ProductProblem #[.agg #[.int .i64 p.labels, .int .i64 p.degree, c.v, d.v], .agg #[.int .i64 q.labels, .int .i64 q.degree, c'.v, d'.v]] w (Ret [.agg [.int .i64, .int .i64, .sl, .sl], .at .bool] (PrIs w p q)) := by
  refine C_s_ProductProblem ?_
  unfold V_s_ProductProblem
  refine NEW_intro fun pp w1 hp1 hs1 hE1 hb1 => NEW_intro fun pq w2 hp2 hs2 hE2 hb2 => NEW_intro fun px w3 hp3 hs3 hE3 hb3 => ?_
  have hE := (hE1.trans hE2).trans hE3
  have hz3 := (hE1.trans hE2).size_le
  replace h := h.ext hE
  replace h' := h'.ext hE
  replace hb1 := hb1.ext hE2
  replace hb1 := hb1.ext hE3
  replace hb2 := hb2.ext hE3
  refine LD_iiss hb1 (LD_iiss hb2 ?_)
  refine call (reTwo_ok h h') ?_
  rintro x w4 ⟨hx, hE4⟩
  replace hE := hE.ext hE4
  replace h := h.ext hE4
  replace h' := h'.ext hE4
  replace hb1 := hb1.ext hE4
  replace hb2 := hb2.ext hE4
  replace hb3 := hb3.ext hE4
  have hno : ∀ {w' : World}, Ext w w' → Box w' px T.t_i_Problem [.int .i64 0, .int .i64 0, .slice none 0 0, .slice none 0 0] → ¬ (TwoOk p q ∧ p.labels * q.labels ≤ 8) → ST px 0 [.int .i64 0, .int .i64 0, .slice none 0 0, .slice none 0 0] w' fun w5 => LD [.int .i64, .int .i64, .sl, .sl] px w5 fun (a : Int) (b : Int) (e : Sl) (f : Sl) => PrIs w p q a b e f false w5 := fun {w'} hE' hb' hn => by
    refine ST_all hb' (one4p 0 0 ⟨none, 0, 0⟩ ⟨none, 0, 0⟩) rfl fun w5 hs5 hz5 hb5 => ?_
    exact LD_iiss (z := ⟨none, 0, 0⟩) (u := ⟨none, 0, 0⟩) hb5 ⟨hs5.ext0 hE' fun k hk => by cases hk; omega, .inr ⟨rfl, hn⟩⟩
  refine cond_not (fun hfa => hno hE hb3 fun hA => (by rw [hx.2 hA.1] at hfa; cases hfa)) (fun ht => LD_bi0 hb1 (LD_bi0 hb2 ?_))
  have hT := hx.1 ht
  have hm := mul_small hT
  have hd := hT.1.deg
  rw [wrap_of (by omega) (by omega)]
  refine cond_dec (fun hgt => hno hE hb3 fun hA => by omega) (fun hle => ?_)
  have h8 : p.labels * q.labels ≤ 8 := by omega
  unfold V_s_ProductProblem_k1
  refine LD_bi0 hb1 (LD_bi0 hb2 ?_)
  rw [wrap_of (by omega) (by omega)]
  intro w8 hE8 _
  replace hE := hE.ext hE8
  replace h := h.ext hE8
  replace h' := h'.ext hE8
  replace hb1 := hb1.ext hE8
  replace hb2 := hb2.ext hE8
  replace hb3 := hb3.ext hE8
  have nf : ∀ {a : Prop}, ¬ False := fun h => h
  refine ⟨fun _ => False, fun h => h, LD_bi1 hb1 ⟨fun h => h, LD_bs2 hb1 ⟨fun h => h, LD_bs2 hb2 ⟨fun h => h, LD_bi1 hb1 ⟨fun h => h, LD_bi0 hb2 ⟨fun h => h, LD_bs3 hb1 ⟨fun h => h, LD_bs3 hb2 ⟨fun h => h, LD_bi0 hb2 ?_⟩⟩⟩⟩⟩⟩⟩⟩
  have en : p.labels * q.labels = (((p.labels * q.labels).toNat : Nat) : Int) := by omega
  have ek : p.degree = ((p.degree.toNat : Nat) : Int) := by omega
  rw [en]
  rw [ek]
  refine call (reProduct_ok h.nodes h'.nodes (by omega) (by omega) (pow_small (by omega) (by omega)) hT.2.1.lab.1) ?_
  rintro z w9 ⟨hE9, bz, hbz, hz⟩
  refine ⟨.of_ext hE9, ?_⟩
  have e2 : (2 : Int) = ((2 : Nat) : Int) := rfl
  rw [e2]
  refine call (reProduct_ok (k := 2) (h.edges.ext hE9) (h'.edges.ext hE9) (by omega) (by omega) (pow_small (by omega) (by omega)) hT.2.1.lab.1) ?_
  rintro u w10 ⟨hE10, bu, hbu, hu⟩
  have hE810 := hE9.trans hE10
  refine ⟨.of_ext hE810, .of_ext hE810, ?_⟩
  have hb10 := hb3.ext hE810
  have hlt := hb3.lt
  refine ST_all hb10 (one4p _ _ _ _) rfl fun w11 hs11 hz11 hb11 => ?_
  refine LD_iiss hb11 ⟨hs11.ext0 (hE.trans hE810) fun k hk => by cases hk; omega, .inl ⟨rfl, hT, h8, by omega, by omega, ?_⟩⟩
  exact made_prob hs11 hlt hT h8 ((hz.ext hE10).low hbz) (hu.low (Nat.le_trans hE9.size_le hbu))

/-! ### What a labeling of the product stands for -/

/-- One more row of two matrices that lie apart. -/
theorem add_row {w : World} {base b1 : Nat} {s s' r y : Sl} {L L' : List (List Int)} {ss ss' : List Sl} {l : List Int} (h : RowsD w base T.t_int T.t_sl_int s L ss) (h' : RowsD w base T.t_int T.t_sl_int s' L' ss') (hd : ∀ b, MB s ss b → ¬ MB s' ss' b) (hbase : base ≤ w.heap.size)
    (hr : OwnL w base T.t_int r l) (hr1 : ∀ b, oB r b → ¬ RB ss b) (hr2 : ∀ b, oB r b → ¬ MB s' ss' b) (hy : OwnL w b1 T.t_sl_int y [r]) (hl : L.length < 1048576) {K : Sl → World → Prop}
    (hk : ∀ t w', RowsD w' base T.t_int T.t_sl_int t (L ++ [l]) (ss ++ [r]) → RowsD w' base T.t_int T.t_sl_int s' L' ss' → (∀ b, MB t (ss ++ [r]) b → ¬ MB s' ss' b) → Step w w' s.v.ownBlock → K t w') :
    RUN Tryz.prog (.at .sl) (bsem .append #[T.t_sl_sl_int, T.t_sl_sl_int] T.t_sl_sl_int #[s.v, y.v]) w K := by
  refine RUN_append_rowDF slt_rows (by decide) h hbase hr (fun j q hq k hk hk' => hr1 k hk' ⟨q, List.mem_of_getElem? hq, hk⟩) hy (by omega) (by unfold maxLen; omega) fun t w' hT hs hn => ?_
  refine hk t w' hT (h'.away (.of_step hs fun k hk => hk) fun b hb hD => hd b (.inl hD) hb) (fun b hb hb' => ?_) hs
  rcases hb with hb | ⟨q, hq, hb⟩
  · rcases hn with h1 | h1
    · exact hd b (.inl (by rw [← h1]; exact hb)) hb'
    · have h2 := h1 b hb
      have h3 := (h'.blk hb').2
      omega
  · rcases List.mem_append.1 hq with h1 | h1
    · exact hd b (.inr ⟨q, h1, hb⟩) hb'
    · rw [List.mem_singleton.1 h1] at hb
      exact hr2 b hb hb'

theorem RB_type {w : World} {base : Nat} {s r : Sl} {L : List (List Int)} {ss : List Sl} {l : List Int} {b2 : Nat} (h : RowsD w base T.t_int T.t_sl_int s L ss) (hr : OwnL w b2 T.t_int r l) {b : Nat} (hb : oB r b) : s.v.ownBlock ≠ some b := fun he => by
  obtain ⟨c1, e1⟩ := hr.type hb
  obtain ⟨c2, e2⟩ := h.own.type he
  rw [e1] at e2
  exact absurd (Obj.cells.inj (Option.some.inj e2)).2.1 (by decide)

structure Spl2 (w w' : World) (k : Int) (L : List (List Int)) (i : Nat) (a b : Sl) (ss ss' : List Sl) : Prop where
  ext : Ext w w'
  fst : RowsD w' w.heap.size T.t_int T.t_sl_int a ((L.take i).map (firsts k)) ss
  snd : RowsD w' w.heap.size T.t_int T.t_sl_int b ((L.take i).map (seconds k)) ss'
  off : ∀ x, MB a ss x → ¬ MB b ss' x

theorem spRows_ok {w : World} {c d s : Sl} {q : Prob} {L : List (List Int)} {px : Addr} {t : TypeId} {Q : Sl → Sl → Bool → World → Prop} (hb : Box w px t [.int .i64 q.labels, .int .i64 q.degree, c.v, d.v]) (hq : 1 ≤ q.labels) (hl : R w s L) (hv : ∀ r ∈ L, ∀ x ∈ r, 0 ≤ x ∧ x ≤ 1000) (hL : L.length ≤ 1048576) (hLL : ∀ r ∈ L, r.length ≤ 1048576)
    (hQ : ∀ a b w', Ext w w' → Out2M w.heap.size w' a (L.map (firsts q.labels)) b (L.map (seconds q.labels)) → Q a b true w') : V_i_SplitProduct_k1 s Q px w := by
  unfold V_i_SplitProduct_k1
  rw [hl.len]
  refine ⟨fun (a b : Sl) (x : Int) w' => ∃ i : Nat, x = i ∧ i ≤ L.length ∧ ∃ ss ss', Spl2 w w' q.labels L i a b ss ss', fun _ _ x _ => L.length - x.toNat, ⟨0, rfl, Nat.zero_le _, [], [], Ext.refl _, by simpa using RowsD.nil _ _ _ _, by simpa using RowsD.nil _ _ _ _, fun b hb => (by
    rcases hb with hb | ⟨r, hr, _⟩
    · cases hb
    · cases hr)⟩, ?_⟩
  rintro a b _ w1 ⟨i, rfl, hi, ss, ss', hE1, hA, hB, hd⟩
  intros
  refine cond_dec (fun hlt => ?_) (fun hge => ?_)
  · have hi' : i < L.length := by omega
    have hvi := hv _ (List.getElem_mem hi')
    obtain ⟨hf1, hf2⟩ := fs_I64 hvi hq
    refine (hl.ext hE1).ixL hi' fun p0 s1 hR1 hc => LD_sl hc (LD_bi0 (hb.ext hE1) ?_)
    refine call (parts_ok hR1.any (hLL _ (List.getElem_mem hi')) hvi hq) ?_
    rintro x y w2 ⟨hE2, hx, hy, hap⟩
    have hz1 := hE1.size_le
    have hz2 := hE2.size_le
    have hlA : ((L.take i).map (firsts q.labels)).length = i := by rw [List.length_map, List.length_take]; omega
    have hlB : ((L.take i).map (seconds q.labels)).length = i := by rw [List.length_map, List.length_take]; omega
    refine RUN_lit1 (α := Sl) slt_rows x rfl (by decide) fun u w3 hE3 hO3 => ?_
    have hE13 := hE2.trans hE3
    have hz3 := hE3.size_le
    have hnewA : ∀ {z : Sl} {m : List Int}, OwnL w2 w1.heap.size T.t_int z m → ∀ b, oB z b → ¬ RB ss b := fun hz b h1 h2 => by
      have := (hz.blk b h1).1
      have := (hA.blk (.inr h2)).2
      omega
    have hnewB : ∀ {z : Sl} {m : List Int}, OwnL w2 w1.heap.size T.t_int z m → ∀ {e : Sl}, MB e ss' = MB b ss' → ∀ b0, oB z b0 → ¬ MB b ss' b0 := fun hz _ _ b0 h1 h2 => by
      have := (hz.blk b0 h1).1
      have := (hB.blk h2).2
      omega
    refine add_row (hA.ext hE13) (hB.ext hE13) hd (by omega) ((hx.ext hE3).low hz1) (hnewA hx) (hnewB hx (e := b) rfl) hO3 (by omega) fun a' w4 hA4 hB4 hd4 hs4 => ?_
    have hC4 : Chg w3 w4 (fun b => w.heap.size ≤ b) := .of_step hs4 fun k hk => (hA.own.blk k hk).1
    have hE4 : Ext w w4 := hC4.ext0 (hE1.trans hE13) fun _ h => h
    have hy4 : OwnL w4 w1.heap.size T.t_int y (seconds q.labels L[i]) := (hy.ext hE3).step (hA.ext hE13).own (by decide) hs4
    have hz4 := hs4.size
    refine RUN_lit1 (α := Sl) slt_rows y rfl (by decide) fun v w5 hE5 hO5 => ?_
    have hz5 := hE5.size_le
    refine add_row (hB4.ext hE5) (hA4.ext hE5) (fun b h1 h2 => hd4 b h2 h1) (by omega) ((hy4.ext hE5).low hz1) (fun k h1 h2 => hnewB hy (e := b) rfl k h1 (.inr h2)) (fun k h1 h2 => ?_) hO5 (by omega) fun b' w6 hB6 hA6 hd6 hs6 => ?_
    · rcases h2 with h2 | ⟨z, hz, h2⟩
      · exact RB_type hA4 hy4 h1 h2
      · rcases List.mem_append.1 hz with h3 | h3
        · exact hnewA hy k h1 ⟨z, h3, h2⟩
        · rw [List.mem_singleton.1 h3] at h2
          exact hap k h2 h1
    · have hC6 : Chg w5 w6 (fun b => w.heap.size ≤ b) := .of_step hs6 fun k hk => (hB4.own.blk k hk).1
      rw [wrap_of (by omega) (by omega)]
      refine ⟨⟨i + 1, by omega, hi', ss ++ [x], ss' ++ [y], hC6.ext0 (hE4.trans hE5) fun _ h => h, ?_, ?_, fun b h1 h2 => hd6 b h2 h1⟩, by simp only []; omega⟩
      · rw [map_take_succ hi']; exact hA6
      · rw [map_take_succ hi']; exact hB6
  · have : i = L.length := by omega
    subst this
    rw [List.take_length] at hA hB
    refine hQ _ _ _ hE1 ⟨⟨ss, ss', hA, hB, hd⟩, fun r hr => ?_, by simpa using hL, fun r hr => ?_, fun r hr => ?_, by simpa using hL, fun r hr => ?_⟩
    · obtain ⟨l, hl', rfl⟩ := List.mem_map.1 hr; exact (fs_I64 (hv l hl') hq).1
    · obtain ⟨l, hl', rfl⟩ := List.mem_map.1 hr; simpa [firsts] using hLL l hl'
    · obtain ⟨l, hl', rfl⟩ := List.mem_map.1 hr; exact (fs_I64 (hv l hl') hq).2
    · obtain ⟨l, hl', rfl⟩ := List.mem_map.1 hr; simpa [seconds] using hLL l hl'


theorem spRowsS_ok {w : World} {c d s : Sl} {q : Prob} {L : List (List Int)} {px : Addr} {t : TypeId} {Q : Sl → Sl → Bool → World → Prop} (hb : Box w px t [.int .i64 q.labels, .int .i64 q.degree, c.v, d.v]) (hq : 1 ≤ q.labels) (hl : R w s L) (hv : ∀ r ∈ L, ∀ x ∈ r, 0 ≤ x ∧ x ≤ 1000) (hL : L.length ≤ 1048576) (hLL : ∀ r ∈ L, r.length ≤ 1048576)
    (hQ : ∀ a b w', Ext w w' → Out2M w.heap.size w' a (L.map (firsts q.labels)) b (L.map (seconds q.labels)) → Q a b true w') : V_s_SplitProduct_k1 s Q px w := by
  unfold V_s_SplitProduct_k1
  rw [hl.len]
  refine ⟨fun (a b : Sl) (x : Int) w' => ∃ i : Nat, x = i ∧ i ≤ L.length ∧ ∃ ss ss', Spl2 w w' q.labels L i a b ss ss', fun _ _ x _ => L.length - x.toNat, ⟨0, rfl, Nat.zero_le _, [], [], Ext.refl _, by simpa using RowsD.nil _ _ _ _, by simpa using RowsD.nil _ _ _ _, fun b hb => (by
    rcases hb with hb | ⟨r, hr, _⟩
    · cases hb
    · cases hr)⟩, ?_⟩
  rintro a b _ w1 ⟨i, rfl, hi, ss, ss', hE1, hA, hB, hd⟩
  intros
  refine cond_dec (fun hlt => ?_) (fun hge => ?_)
  · have hi' : i < L.length := by omega
    have hvi := hv _ (List.getElem_mem hi')
    obtain ⟨hf1, hf2⟩ := fs_I64 hvi hq
    refine (hl.ext hE1).ixL hi' fun p0 s1 hR1 hc => LD_sl hc (LD_bi0 (hb.ext hE1) ?_)
    refine call (reHalves_ok hR1.any (hLL _ (List.getElem_mem hi')) hvi hq) ?_
    rintro x y w2 ⟨hE2, hx, hy, hap⟩
    have hz1 := hE1.size_le
    have hz2 := hE2.size_le
    have hlA : ((L.take i).map (firsts q.labels)).length = i := by rw [List.length_map, List.length_take]; omega
    have hlB : ((L.take i).map (seconds q.labels)).length = i := by rw [List.length_map, List.length_take]; omega
    refine RUN_lit1 (α := Sl) slt_rows x rfl (by decide) fun u w3 hE3 hO3 => ?_
    have hE13 := hE2.trans hE3
    have hz3 := hE3.size_le
    have hnewA : ∀ {z : Sl} {m : List Int}, OwnL w2 w1.heap.size T.t_int z m → ∀ b, oB z b → ¬ RB ss b := fun hz b h1 h2 => by
      have := (hz.blk b h1).1
      have := (hA.blk (.inr h2)).2
      omega
    have hnewB : ∀ {z : Sl} {m : List Int}, OwnL w2 w1.heap.size T.t_int z m → ∀ {e : Sl}, MB e ss' = MB b ss' → ∀ b0, oB z b0 → ¬ MB b ss' b0 := fun hz _ _ b0 h1 h2 => by
      have := (hz.blk b0 h1).1
      have := (hB.blk h2).2
      omega
    refine add_row (hA.ext hE13) (hB.ext hE13) hd (by omega) ((hx.ext hE3).low hz1) (hnewA hx) (hnewB hx (e := b) rfl) hO3 (by omega) fun a' w4 hA4 hB4 hd4 hs4 => ?_
    have hC4 : Chg w3 w4 (fun b => w.heap.size ≤ b) := .of_step hs4 fun k hk => (hA.own.blk k hk).1
    have hE4 : Ext w w4 := hC4.ext0 (hE1.trans hE13) fun _ h => h
    have hy4 : OwnL w4 w1.heap.size T.t_int y (seconds q.labels L[i]) := (hy.ext hE3).step (hA.ext hE13).own (by decide) hs4
    have hz4 := hs4.size
    refine RUN_lit1 (α := Sl) slt_rows y rfl (by decide) fun v w5 hE5 hO5 => ?_
    have hz5 := hE5.size_le
    refine add_row (hB4.ext hE5) (hA4.ext hE5) (fun b h1 h2 => hd4 b h2 h1) (by omega) ((hy4.ext hE5).low hz1) (fun k h1 h2 => hnewB hy (e := b) rfl k h1 (.inr h2)) (fun k h1 h2 => ?_) hO5 (by omega) fun b' w6 hB6 hA6 hd6 hs6 => ?_
    · rcases h2 with h2 | ⟨z, hz, h2⟩
      · exact RB_type hA4 hy4 h1 h2
      · rcases List.mem_append.1 hz with h3 | h3
        · exact hnewA hy k h1 ⟨z, h3, h2⟩
        · rw [List.mem_singleton.1 h3] at h2
          exact hap k h2 h1
    · have hC6 : Chg w5 w6 (fun b => w.heap.size ≤ b) := .of_step hs6 fun k hk => (hB4.own.blk k hk).1
      rw [wrap_of (by omega) (by omega)]
      refine ⟨⟨i + 1, by omega, hi', ss ++ [x], ss' ++ [y], hC6.ext0 (hE4.trans hE5) fun _ h => h, ?_, ?_, fun b h1 h2 => hd6 b h2 h1⟩, by simp only []; omega⟩
      · rw [map_take_succ hi']; exact hA6
      · rw [map_take_succ hi']; exact hB6
  · have : i = L.length := by omega
    subst this
    rw [List.take_length] at hA hB
    refine hQ _ _ _ hE1 ⟨⟨ss, ss', hA, hB, hd⟩, fun r hr => ?_, by simpa using hL, fun r hr => ?_, fun r hr => ?_, by simpa using hL, fun r hr => ?_⟩
    · obtain ⟨l, hl', rfl⟩ := List.mem_map.1 hr; exact (fs_I64 (hv l hl') hq).1
    · obtain ⟨l, hl', rfl⟩ := List.mem_map.1 hr; simpa [firsts] using hLL l hl'
    · obtain ⟨l, hl', rfl⟩ := List.mem_map.1 hr; exact (fs_I64 (hv l hl') hq).2
    · obtain ⟨l, hl', rfl⟩ := List.mem_map.1 hr; simpa [seconds] using hLL l hl'


theorem prodP_labels (p q : Prob) : (prodP p q).labels = p.labels * q.labels := rfl

theorem lab_1000 {p q : Prob} {n : Net} {L : List (List Int)} (h : LabOk (prodP p q) n.ends L) (h8 : p.labels * q.labels ≤ 8) : ∀ r ∈ L, ∀ x ∈ r, 0 ≤ x ∧ x ≤ 1000 := fun r hr x hx => by
  have h1 := h.labs r hr x hx
  rw [prodP_labels] at h1
  omega

theorem prod_small {p q : Prob} (h : TwoOk p q) (h8 : p.labels * q.labels ≤ 8) : SmallP (prodP p q) := by
  have hm := mul_small h
  have hd := h.1.deg
  have h1 := pow_small (n := (p.labels * q.labels).toNat) (k := 4) (by omega) (by omega)
  have hlen : ∀ (k : Nat) (f : List Int → Bool), k ≤ 4 → SmallM ((msets (p.labels * q.labels).toNat k).filter f) := fun k f hk => by
    refine ⟨?_, fun r hr => ?_⟩
    · have a1 := List.length_filter_le f (msets (p.labels * q.labels).toNat k)
      have a2 := msets_len (p.labels * q.labels).toNat k
      have a3 := h1 k hk
      omega
    · have := (mem_msets.1 (List.mem_filter.1 hr).1).len
      omega
  exact ⟨hlen _ _ (by omega), hlen _ _ (by omega)⟩

theorem SplitProduct_ok {w : World} {c d c' d' a b e s : Sl} {p q : Prob} {n : Net} {L : List (List Int)} (h : RProb w c d p) (h' : RProb w c' d' q) (hN : RNet w a b e n) (hl : R w s L) (hsp : SmallP p) (hsq : SmallP q) (hn : Small n) (hsl : SmallM L) :
    Calls Tryz.prog F.i_SplitProduct #[.agg #[.int .i64 p.labels, .int .i64 p.degree, c.v, d.v], .agg #[.int .i64 q.labels, .int .i64 q.degree, c'.v, d'.v], .agg #[a.v, b.v, e.v], s.v] w (Ret [.at .sl, .at .sl, .at .bool] fun (r r' : Sl) (y : Bool) w' => Ext w w' ∧ ∃ m m', Out2M w.heap.size w' r m r' m' ∧ AnsG (SpAsked p q n L) (L.map (firsts q.labels), L.map (seconds q.labels)) ([], []) (m, m') y) := by
  refine C_i_SplitProduct ?_
  unfold V_i_SplitProduct
  refine NEW_intro fun pp w1 hp1 hs1 hE1 hb1 => NEW_intro fun pq w2 hp2 hs2 hE2 hb2 => NEW_intro fun pn w3 hp3 hs3 hE3 hb3 => ?_
  have hE := (hE1.trans hE2).trans hE3
  replace h := h.ext hE
  replace h' := h'.ext hE
  replace hN := hN.ext hE
  replace hl := hl.ext hE
  replace hb1 := hb1.ext hE2
  replace hb1 := hb1.ext hE3
  replace hb2 := hb2.ext hE3
  refine LD_iiss hb1 (LD_iiss hb2 ?_)
  refine call (ProductProblem_ok h h' hsp hsq) ?_
  rintro x y z u r w4 ⟨hE4, hr⟩
  replace hE := hE.ext hE4
  replace h := h.ext hE4
  replace h' := h'.ext hE4
  replace hN := hN.ext hE4
  replace hl := hl.ext hE4
  replace hb1 := hb1.ext hE4
  replace hb2 := hb2.ext hE4
  replace hb3 := hb3.ext hE4
  refine NEW_ST (one4p _ _ _ _) rfl fun px w5 hp5 hE5 hb5 => ?_
  replace hE := hE.ext hE5
  replace h := h.ext hE5
  replace h' := h'.ext hE5
  replace hN := hN.ext hE5
  replace hl := hl.ext hE5
  replace hb1 := hb1.ext hE5
  replace hb2 := hb2.ext hE5
  replace hb3 := hb3.ext hE5
  rcases hr with ⟨rfl, hT, h8, rfl, rfl, hP⟩ | ⟨rfl, hn'⟩
  · refine cond_not (fun hf => by cases hf) (fun _ => LD_box3 hb3 ?_)
    refine call (isNetwork_ok hN hn.2.2.1) ?_
    rintro t w6 ⟨ht, hE6⟩
    replace hE := hE.ext hE6
    replace h := h.ext hE6
    replace h' := h'.ext hE6
    replace hN := hN.ext hE6
    replace hl := hl.ext hE6
    replace hb1 := hb1.ext hE6
    replace hb2 := hb2.ext hE6
    replace hb3 := hb3.ext hE6
    refine cond_not (fun hfa => ⟨hE, [], [], Out2M.nil _ _, .no fun hA => (by rw [ht.2 hA.good] at hfa; cases hfa)⟩) (fun ht2 => LD_iiss (hb5.ext hE6) (LD_box3 hb3 ?_))
    have hg := ht.1 ht2
    refine call (isLabeling_ok (p := prodP p q) ((hP.ext hE5).ext hE6) (prod_good hT.1 hT.2.1 h8) hN hl) ?_
    rintro v w7 ⟨hv, hE7⟩
    replace hE := hE.ext hE7
    replace h := h.ext hE7
    replace h' := h'.ext hE7
    replace hN := hN.ext hE7
    replace hl := hl.ext hE7
    replace hb1 := hb1.ext hE7
    replace hb2 := hb2.ext hE7
    replace hb3 := hb3.ext hE7
    refine cond_not (fun hfa => ⟨hE, [], [], Out2M.nil _ _, .no fun hA => (by rw [hv.2 hA.lab] at hfa; cases hfa)⟩) (fun ht3 => ?_)
    have hLb := hv.1 ht3
    refine spRows_ok hb2 hT.2.1.lab.1 hl (lab_1000 hLb h8) hsl.1 hsl.2 fun a' b' w' hE' hO => ⟨hE.trans hE', _, _, hO.low hE.size_le, .yes ⟨hT.1, hT.2.1, hT.2.2, h8, hg, hLb⟩⟩
  · refine cond_not (fun _ => ⟨hE, [], [], Out2M.nil _ _, .no fun hA => hn' ⟨⟨hA.left, hA.right, hA.deg⟩, hA.few⟩⟩) (fun ht => by cases ht)

theorem sSplitProduct_ok {w : World} {c d c' d' a b e s : Sl} {p q : Prob} {n : Net} {L : List (List Int)} (h : RProb w c d p) (h' : RProb w c' d' q) (hN : RNet w a b e n) (hl : R w s L) :
    Calls Tryz.prog F.s_SplitProduct #[.agg #[.int .i64 p.labels, .int .i64 p.degree, c.v, d.v], .agg #[.int .i64 q.labels, .int .i64 q.degree, c'.v, d'.v], .agg #[a.v, b.v, e.v], s.v] w (Ret [.at .sl, .at .sl, .at .bool] fun (r r' : Sl) (y : Bool) w' => Ext w w' ∧ ∃ m, R w' r m ∧ ∃ m', R w' r' m' ∧ AnsG (SpAsked p q n L) (L.map (firsts q.labels), L.map (seconds q.labels)) ([], []) (m, m') y) := by
  refine C_s_SplitProduct ?_
  unfold V_s_SplitProduct
  refine NEW_intro fun pp w1 hp1 hs1 hE1 hb1 => NEW_intro fun pq w2 hp2 hs2 hE2 hb2 => NEW_intro fun pn w3 hp3 hs3 hE3 hb3 => ?_
  have hE := (hE1.trans hE2).trans hE3
  replace h := h.ext hE
  replace h' := h'.ext hE
  replace hN := hN.ext hE
  replace hl := hl.ext hE
  replace hb1 := hb1.ext hE2
  replace hb1 := hb1.ext hE3
  replace hb2 := hb2.ext hE3
  have hni : ∀ {w' : World}, R w' (⟨none, 0, 0⟩ : Sl) ([] : List (List Int)) := fun {w'} => (OutM.nil 0 w').rep
  refine LD_iiss hb1 (LD_iiss hb2 ?_)
  refine call (sProductProblem_ok h h') ?_
  rintro x y z u r w4 ⟨hE4, hr⟩
  replace hE := hE.ext hE4
  replace h := h.ext hE4
  replace h' := h'.ext hE4
  replace hN := hN.ext hE4
  replace hl := hl.ext hE4
  replace hb1 := hb1.ext hE4
  replace hb2 := hb2.ext hE4
  replace hb3 := hb3.ext hE4
  refine NEW_ST (one4p _ _ _ _) rfl fun px w5 hp5 hE5 hb5 => ?_
  replace hE := hE.ext hE5
  replace h := h.ext hE5
  replace h' := h'.ext hE5
  replace hN := hN.ext hE5
  replace hl := hl.ext hE5
  replace hb1 := hb1.ext hE5
  replace hb2 := hb2.ext hE5
  replace hb3 := hb3.ext hE5
  rcases hr with ⟨rfl, hT, h8, rfl, rfl, hP⟩ | ⟨rfl, hn'⟩
  · refine cond_not (fun hf => by cases hf) (fun _ => LD_iiss hb5 (LD_box3 hb3 ?_))
    refine call (prAsked_ok (p := prodP p q) (hP.ext hE5) hN hl) ?_
    rintro v w7 ⟨hv, hE7⟩
    replace hE := hE.ext hE7
    replace h := h.ext hE7
    replace h' := h'.ext hE7
    replace hN := hN.ext hE7
    replace hl := hl.ext hE7
    replace hb1 := hb1.ext hE7
    replace hb2 := hb2.ext hE7
    replace hb3 := hb3.ext hE7
    refine cond_not (fun hfa => ⟨hE, [], hni, [], hni, .no fun hA => (by rw [hv.2 ⟨prod_good hT.1 hT.2.1 h8, hA.good, hA.lab⟩] at hfa; cases hfa)⟩) (fun ht3 => ?_)
    have hS := hv.1 ht3
    have hsl : SmallM L := ⟨by have := hS.lab.rows.1; have := hS.good.size.2; omega, fun r hr => by
      obtain ⟨v, hv, rfl⟩ := List.mem_iff_getElem.1 hr
      have hve : v < n.ends.length := by have := hS.lab.rows.1; omega
      have h1 := hS.lab.rows.2 v hv
      rw [rowD hv, rowD hve] at h1
      have := hS.good.deg hve
      omega⟩
    refine spRowsS_ok hb2 hT.2.1.lab.1 hl (lab_1000 hS.lab h8) hsl.1 hsl.2 fun a' b' w' hE' hO => ⟨hE.trans hE', _, hO.rep, _, hO.rep', .yes ⟨hT.1, hT.2.1, hT.2.2, h8, hS.good, hS.lab⟩⟩
  · refine cond_not (fun _ => ⟨hE, [], hni, [], hni, .no fun hA => hn' ⟨⟨hA.left, hA.right, hA.deg⟩, hA.few⟩⟩) (fun ht => by cases ht)

end Go.Proofs.YtlmiookpmneicaaGreat
end

section
/- Sets of labels, choices, lists that are inserted: the reference. -/
namespace Go.Proofs.YtlmiookpmneicaaGreat
open Go.GX Go.RowKit
set_option maxRecDepth 100000

theorem elHas_ok {m a : Nat} (ha : a ≤ 60) (w : World) : Calls Tryz.prog F.s_elHas #[.int .i64 m, .int .i64 a] w (Ret [.at .bool] fun (b : Bool) w' => b = m.testBit a ∧ w = w') := by
  refine C_s_elHas ?_
  unfold V_s_elHas
  refine ⟨by omega, by decide, ?_, rfl⟩
  rw [shr_set ha, Nat.testBit_eq_decide_div_mod_eq]
  have e2 : (2 : Int) = ((2 : Nat) : Int) := rfl
  rw [e2, ← Int.ofNat_tmod]
  have h3 : m / 2 ^ a % 2 < 2 := Nat.mod_lt _ (by decide)
  by_cases h : m / 2 ^ a % 2 = 1
  · simp [h]
  · have : m / 2 ^ a % 2 = 0 := by omega
    simp [this]

theorem elLabels_ok (m : Nat) (w : World) :
    Calls Tryz.prog F.s_elLabels #[.int .i64 m] w (Ret [.at .sl] fun (r : Sl) w' => Ext w w' ∧ OwnL w' w.heap.size T.t_int r (labsOf m)) := by
  refine C_s_elLabels ?_
  unfold V_s_elLabels
  refine ⟨fun (out : Sl) (x : Int) w' => ∃ a : Nat, x = a ∧ a ≤ 8 ∧ Ext w w' ∧ OwnL w' w.heap.size T.t_int out (labsTo m a), fun _ x _ => 8 - x.toNat, ⟨0, rfl, by omega, Ext.refl _, OwnL.nil _ _ _⟩, ?_⟩
  rintro out _ w1 ⟨a, rfl, ha, hE1, hO⟩
  intros
  refine cond_dec (fun hlt => ?_) (fun hge => ?_)
  · refine call (elHas_ok (by omega) w1) ?_
    rintro _ _ ⟨rfl, rfl⟩
    have hlen := labsTo_len m a
    have hz := hE1.size_le
    refine cond_b (fun hb => ?_) (fun hb => ?_)
    · refine RUN_lit1 (α := Int) slt_int _ rfl (by decide) fun x w2 hE2 hO2 => ?_
      have hO1 := hO.ext hE2
      refine RUN_append (α := Int) slt_int hO1 (by have := hE2.size_le; omega) (hO2.rep (by intro x hx; rw [List.mem_singleton.1 hx]; show I64 _; unfold I64; omega)).any (by simp; omega) (by simp [maxLen]; omega) fun r w3 hO3 hs3 => ?_
      rw [wrap_of (by omega) (by omega)]
      refine ⟨⟨a + 1, by omega, by omega, hs3.ext0 (hE1.trans hE2) fun k hk => (hO1.blk k hk).1, ?_⟩, by simp only []; omega⟩
      rw [labsTo_succ, if_pos hb]; exact hO3
    · rw [wrap_of (by omega) (by omega)]
      refine ⟨⟨a + 1, by omega, by omega, hE1, ?_⟩, by simp only []; omega⟩
      rw [labsTo_succ, hb]; simpa using hO
  · have : a = 8 := by omega
    subst this
    exact ⟨hE1, hO⟩

theorem elNear_ok {w : World} {c d : Sl} {p : Prob} {m : Nat} (h : RProb w c d p) (hg : PGood p) :
    Calls Tryz.prog F.s_elNear #[.agg #[.int .i64 p.labels, .int .i64 p.degree, c.v, d.v], .int .i64 m] w (Ret [.at (.int .i64)] fun (x : Int) w' => x = (near p m : Nat) ∧ Ext w w') := by
  refine C_s_elNear ?_
  unfold V_s_elNear
  refine NEW_intro fun pp w1 hp1 hs1 hE1 hb1 => ?_
  have hlab := hg.lab
  let f : Nat → Bool := fun b => (labsOf m).all fun a => edgeB p a b
  refine ⟨fun (x y : Int) w' => ∃ i : Nat, y = i ∧ i ≤ p.labels.toNat ∧ x = (maskOf i f : Nat) ∧ Ext w1 w', fun _ y _ => p.labels.toNat - y.toNat, ⟨0, rfl, Nat.zero_le _, rfl, Ext.refl _⟩, ?_⟩
  rintro _ _ w2 ⟨i, rfl, hi, rfl, hE2⟩
  intros
  refine LD_bi0 (hb1.ext hE2) ?_
  refine cond_dec (fun hlt => ?_) (fun hge => ?_)
  · refine call (elLabels_ok m w2) ?_
    rintro r w3 ⟨hE3, hO3⟩
    have hE13 := hE2.trans hE3
    have hR3 := (hO3.rep (labsOf_I64 m)).any
    have hL64 := labsOf_I64 m
    rw [hR3.len]
    refine ⟨fun (al : Bool) (x : Int) w' => ∃ j : Nat, x = j ∧ j ≤ (labsOf m).length ∧ al = (((labsOf m).take j).all fun a => edgeB p a i) ∧ Ext w3 w', fun _ x _ => (labsOf m).length - x.toNat, ⟨0, rfl, Nat.zero_le _, rfl, Ext.refl _⟩, ?_⟩
    rintro _ _ w4 ⟨j, rfl, hj, rfl, hE4⟩
    intros
    have hll := hR3.le
    have hst : ∀ {w' : World} {b : Bool}, Ext w3 w' → ∀ hj' : j < (labsOf m).length, b = (((labsOf m).take (j + 1)).all fun a => edgeB p a i) → (∃ j' : Nat, IntKind.i64.wrap ((j : Int) + 1) = j' ∧ j' ≤ (labsOf m).length ∧ b = (((labsOf m).take j').all fun a => edgeB p a i) ∧ Ext w3 w') ∧ (labsOf m).length - (IntKind.i64.wrap ((j : Int) + 1)).toNat < (labsOf m).length - ((j : Int)).toNat := fun {w' b} hE' hj' hb => by
      rw [wrap_of (by omega) (by omega)]
      exact ⟨⟨j + 1, by omega, hj', hb, hE'⟩, by omega⟩
    refine cond_dec (fun hlt2 => ?_) (fun hge2 => ?_)
    · have hj' : j < (labsOf m).length := by omega
      refine (hR3.ext hE4).ixI hj' fun q _ hc => LD_int hc ?_
      refine cond_b (fun ht => LD_iiss (hb1.ext (hE13.trans hE4)) ?_) (fun hf => hst hE4 hj' (by rw [List.take_succ_eq_append_getElem hj', List.all_append, hf]; rfl))
      refine call (prEdge_ok (h.ext (hE1.trans (hE13.trans hE4))) (hL64 _ (List.getElem_mem hj')) (by unfold I64; omega)) ?_
      rintro x w5 ⟨hx, hE5⟩
      have ex : x = edgeB p (labsOf m)[j] i := bool_of hx edgeB_iff
      refine hst (hE4.trans hE5) hj' ?_
      rw [List.take_succ_eq_append_getElem hj', List.all_append, ht, ex]
      simp
    · have : j = (labsOf m).length := by omega
      subst this
      rw [List.take_length]
      have hE14 := hE13.trans hE4
      refine cond_b (fun ht => ⟨by omega, ?_⟩) (fun hf => ?_)
      · have h1 := maskOf_small (n := i) (by omega) f
        have h2 : 2 ^ i ≤ 2 ^ 8 := Nat.pow_le_pow_right (by decide) (by omega)
        have h3 : (2 : Nat) ^ 8 = 256 := by decide
        have hadd := maskOf_add i f
        rw [if_pos (show f i = true from ht)] at hadd
        rw [shl_one (by omega)]
        generalize 2 ^ i = q at h2 hadd ⊢
        rw [wrap_of (n := _ + 1) (by omega) (by omega), wrap_of (by omega) (by omega)]
        refine ⟨⟨i + 1, by omega, by omega, ?_, hE14⟩, by simp only []; omega⟩
        rw [hadd]
        push_cast
        rfl
      · rw [wrap_of (by omega) (by omega)]
        refine ⟨⟨i + 1, by omega, by omega, ?_, hE14⟩, by simp only []; omega⟩
        have hf' : f i = false := hf
        rw [maskOf_add, hf']; simp
  · have : i = p.labels.toNat := by omega
    subst this
    exact ⟨rfl, hE1.trans hE2⟩

/-! ### Numbers of sets -/

theorem elNumbers_ok {w : World} {s t : Sl} {S x : List Int} (hS : R w s S) (hx : R w t x) (hr : S.Pairwise (· < ·)) (hin : ∀ y ∈ x, y ∈ S) (hl : S.length ≤ 256) (hxl : x.length ≤ 1000) :
    Calls Tryz.prog F.s_elNumbers #[s.v, t.v] w (Ret [.at .sl] fun (r : Sl) w' => Ext w w' ∧ OwnL w' w.heap.size T.t_int r (numsOf S x)) := by
  refine C_s_elNumbers ?_
  unfold V_s_elNumbers
  let g : Int → Int := fun s => ((S.idxOf s : Nat) : Int)
  rw [hx.len]
  have hg64 : ∀ l : List Int, (∀ y ∈ l, y ∈ S) → ∀ z ∈ l.map g, I64 z := fun l hl z hz => by
    obtain ⟨y, hy, rfl⟩ := List.mem_map.1 hz
    have := List.idxOf_lt_length_of_mem (hl y hy)
    show I64 ((S.idxOf y : Nat) : Int)
    unfold I64; omega
  have hml : ∀ j, j ≤ x.length → ((x.take j).map g).length = j := fun j hj => by rw [List.length_map, List.length_take]; omega
  refine ⟨IN2 x.length fun i (out : Sl) w' => Ext w w' ∧ OwnL w' w.heap.size T.t_int out ((x.take i).map g), MN2 x.length, IN2_zero ⟨Ext.refl _, OwnL.nil _ _ _⟩, ?_⟩
  rintro out _ w1 ⟨i, rfl, hi, hE1, hO⟩
  intros
  refine cond_dec (fun hlt => ?_) (fun hge => ?_)
  · have hi' : i < x.length := by omega
    refine (hx.ext hE1).ixI hi' fun q _ hc => LD_int hc ?_
    obtain ⟨k, hk, hke⟩ := List.mem_iff_getElem.1 (hin _ (List.getElem_mem hi'))
    have hidx : S.idxOf x[i] = k := by rw [← hke]; exact idx_rise hr hk
    rw [hS.len]
    have hmi := hml i hi
    refine ⟨fun (o : Sl) (y : Int) w' => ∃ j : Nat, y = j ∧ j ≤ S.length ∧ Ext w w' ∧ OwnL w' w.heap.size T.t_int o ((x.take i).map g ++ if k < j then [g x[i]] else []), fun _ y _ => S.length - y.toNat, ⟨0, rfl, Nat.zero_le _, hE1, by simpa using hO⟩, ?_⟩
    rintro o _ w2 ⟨j, rfl, hj, hE2, hO2⟩
    intros
    refine cond_dec (fun hlt2 => ?_) (fun hge2 => ?_)
    · have hj' : j < S.length := by omega
      refine (hS.ext hE2).ixI hj' fun q _ hc => LD_int hc ?_
      refine cond_eq (fun heq => ?_) (fun hne => ?_)
      · have he : x[i] = S[j] := heq
        have hjk : j = k := by rw [← hidx, he]; exact (idx_rise hr hj').symm
        subst hjk
        rw [if_neg (by omega), List.append_nil] at hO2
        refine RUN_lit1 (α := Int) slt_int _ rfl (by decide) fun y w3 hE3 hO3 => ?_
        have hz := hE2.size_le
        refine RUN_append (α := Int) slt_int (hO2.ext hE3) (by have := hE3.size_le; omega) (hO3.rep (by intro x hx; rw [List.mem_singleton.1 hx]; show I64 _; unfold I64; omega)).any (by simp; omega) (by simp [maxLen]; omega) fun r w4 hO4 hs4 => ?_
        rw [wrap_of (by omega) (by omega)]
        refine ⟨⟨j + 1, by omega, hj', hs4.ext0 (hE2.trans hE3) fun k hk => ((hO2.ext hE3).blk k hk).1, ?_⟩, by simp only []; omega⟩
        rw [if_pos (by omega)]
        show OwnL w4 w.heap.size T.t_int r (_ ++ [((S.idxOf x[i] : Nat) : Int)])
        rw [hidx]; exact hO4
      · have hjk : j ≠ k := fun h => by subst h; exact hne hke.symm
        rw [wrap_of (by omega) (by omega)]
        refine ⟨⟨j + 1, by omega, hj', hE2, ?_⟩, by simp only []; omega⟩
        by_cases hkj : k < j
        · rw [if_pos hkj] at hO2; rw [if_pos (by omega)]; exact hO2
        · rw [if_neg hkj] at hO2; rw [if_neg (by omega)]; exact hO2
    · have : j = S.length := by omega
      subst this
      rw [if_pos hk] at hO2
      refine IN2_next hx.le hi' ⟨hE2, ?_⟩
      rw [map_take_succ hi']
      exact hO2
  · have : i = x.length := by omega
    subst this
    rw [List.take_length] at hO
    refine call (prSorted_ok (hO.rep (hg64 x hin)).any (by rw [List.length_map]; omega)) ?_
    rintro r w2 ⟨hE2, hO2⟩
    exact ⟨hE1.trans hE2, hO2.low hE1.size_le⟩

/-! ### Choices -/

theorem nil_at (w : World) (D : Nat → Prop) : SlR D w (⟨none, 0, 0⟩ : Sl) ([] : List Int) := ⟨rfl, by simp, fun i x hx => by simp at hx⟩

theorem elChoice_ok {good : List (List Int)} {S : List Int} (hv : ∀ x ∈ S, ∃ m : Nat, x = m ∧ m < 256) (hl : S.length ≤ 1000) : ∀ (n : Nat) {w : World} {g s ch : Sl} {pre : List Int} {D : Nat → Prop}, pre.length + n = S.length → R w g good → R w s S → SlR D w ch pre →
    Calls Tryz.prog F.s_elChoice #[g.v, s.v, ch.v] w (Ret [.at .sl, .at .bool] fun (r : Sl) (b : Bool) w' => Ext w w' ∧ match firstC (fun c => decide (sortI c ∈ good)) ((S.drop pre.length).map fun x => labsOf x.toNat) pre with | some c => b = true ∧ SlR (fun b => D b ∨ w.heap.size ≤ b) w' r c | none => b = false)
  | 0, w, g, s, ch, pre, D, hn, hg, hS, hch => by
    refine C_s_elChoice ?_
    unfold V_s_elChoice
    rw [hch.len, hS.len]
    refine cond_eq (fun _ => ?_) (fun hne => absurd (by omega) hne)
    refine call (prSorted_ok hch.any (by omega)) ?_
    rintro x w1 ⟨hE1, hO1⟩
    refine call (prHas_ok (hg.ext hE1) (hO1.rep (sortI_I64 (flat_ok hch.any))).any) ?_
    rintro _ w2 ⟨rfl, hE2⟩
    refine ⟨hE1.trans hE2, ?_⟩
    rw [List.drop_of_length_le (by omega), List.map_nil, firstC]
    by_cases hp : sortI pre ∈ good
    · simp only [hp, decide_true, if_true]
      exact ⟨trivial, (hch.ext (hE1.trans hE2)).weak (fun b hb _ => .inl hb) RepP.pos⟩
    · simp [hp]
  | n + 1, w, g, s, ch, pre, D, hn, hg, hS, hch => by
    have hp64 := flat_ok hch.any
    refine C_s_elChoice ?_
    unfold V_s_elChoice
    rw [hch.len, hS.len]
    refine cond_eq (fun he => absurd he (by omega)) (fun _ => ?_)
    have hk : pre.length < S.length := by omega
    refine hS.ixI hk fun q _ hc => LD_int hc ?_
    obtain ⟨m, hm, hm8⟩ := hv _ (List.getElem_mem hk)
    rw [hm]
    refine call (elLabels_ok m w) ?_
    rintro row w3 ⟨hE3, hO3⟩
    have hR3 := (hO3.rep (labsOf_I64 m)).any
    have hL64 := labsOf_I64 m
    rw [hR3.len]
    let rest : List (List Int) := (S.drop (pre.length + 1)).map fun x => labsOf x.toNat
    let P : List Int → Bool := fun c => decide (sortI c ∈ good)
    let G : Int → Option (List Int) := fun a => firstC P rest (pre ++ [a])
    have hfc : firstC P ((S.drop pre.length).map fun x => labsOf x.toNat) pre = (labsOf m).findSome? G := by
      rw [List.drop_eq_getElem_cons hk, List.map_cons, hm]
      rfl
    rw [hfc]
    have hrle := hR3.le
    refine ⟨fun x w' => ∃ i : Nat, x = i ∧ i ≤ (labsOf m).length ∧ Ext w3 w' ∧ (labsOf m).findSome? G = ((labsOf m).drop i).findSome? G, fun x _ => (labsOf m).length - x.toNat, ⟨0, rfl, Nat.zero_le _, Ext.refl _, by simp⟩, ?_⟩
    rintro _ w4 ⟨i, rfl, hi, hE4, hI⟩
    intros
    have hE04 := hE3.trans hE4
    refine cond_dec (fun hlt => ?_) (fun hge => ?_)
    · have hi' : i < (labsOf m).length := by omega
      rw [List.drop_eq_getElem_cons hi'] at hI
      refine (hR3.ext hE4).ixI hi' fun q _ hc => LD_int hc ?_
      refine call (l1Own_ok (hch.any.ext hE04) (by omega)) ?_
      rintro x5 w5 ⟨hE5, hO5⟩
      refine RUN_lit1 (α := Int) slt_int _ rfl (by decide) fun y w6 hE6 hO6 => ?_
      refine RUN_append (α := Int) slt_int (hO5.ext hE6) (by have := hE5.size_le; have := hE6.size_le; omega) (hO6.rep (by intro x hx; rw [List.mem_singleton.1 hx]; exact hL64 _ (List.getElem_mem hi'))).any (by simp; omega) (by simp [maxLen]; omega) fun r w7 hO7 hs7 => ?_
      have hE47 : Ext w4 w7 := hs7.ext0 (hE5.trans hE6) fun k hk => ((hO5.ext hE6).blk k hk).1
      have hE07 := hE04.trans hE47
      have h64p : ∀ x ∈ pre ++ [(labsOf m)[i]], I64 x := fun x hx => by
        rcases List.mem_append.1 hx with h1 | h1
        · exact hp64 x h1
        · rw [List.mem_singleton.1 h1]; exact hL64 _ (List.getElem_mem hi')
      refine call (elChoice_ok hv hl n (pre := pre ++ [(labsOf m)[i]]) (by simp; omega) (hg.ext hE07) (hS.ext hE07) (hO7.rep h64p)) ?_
      rintro r8 b w8 ⟨hE8, hm8'⟩
      have hlen : (pre ++ [(labsOf m)[i]]).length = pre.length + 1 := by simp
      rw [hlen] at hm8'
      have hGa : firstC (fun c => decide (sortI c ∈ good)) ((S.drop (pre.length + 1)).map fun x => labsOf x.toNat) (pre ++ [(labsOf m)[i]]) = G (labsOf m)[i] := rfl
      rw [hGa] at hm8'
      cases hG : G (labsOf m)[i] with
      | some c =>
        rw [hG] at hm8'
        obtain ⟨rfl, hr⟩ := hm8'
        refine ⟨hE07.trans hE8, ?_⟩
        rw [hI, List.findSome?_cons, hG]
        have hz4 := hE04.size_le
        have hz7 := hE07.size_le
        exact ⟨rfl, hr.weak (fun b hb _ => .inr (by rcases hb with h1 | h1 <;> omega)) RepP.pos⟩
      | none =>
        rw [hG] at hm8'
        subst hm8'
        refine cond_f rfl ?_
        rw [wrap_of (by omega) (by omega)]
        refine ⟨⟨i + 1, by omega, hi', hE4.trans (hE47.trans hE8), ?_⟩, by simp only []; omega⟩
        rw [hI, List.findSome?_cons, hG]
    · have : i = (labsOf m).length := by omega
      subst this
      rw [List.drop_length, List.findSome?_nil] at hI
      rw [hI]
      exact ⟨hE04, rfl⟩

theorem elSome_ok {w : World} {g s : Sl} {good : List (List Int)} {S : List Int} {k : Nat} (hg : R w g good) (hS : R w s S) (hv : ∀ x ∈ S, ∃ m : Nat, x = m ∧ m < 256) (hn : S.length ≤ 8) (hk : k ≤ 4) :
    Calls Tryz.prog F.s_elSome #[g.v, s.v, .int .i64 k] w (Ret [.at .sl] fun (r : Sl) w' => Ext w w' ∧ Own2 w' w.heap.size T.t_int T.t_sl_int r (someOf (fun c => decide (sortI c ∈ good)) S k)) := by
  refine C_s_elSome ?_
  unfold V_s_elSome
  rw [hS.len]
  have hpow := pow_small8 hn hk
  refine call (reChoices_ok w (by omega) (by omega) hpow) ?_
  rintro x w1 ⟨hE1, ss, hM⟩
  have h64 : ∀ r ∈ msets S.length k, ∀ x ∈ r, I64 x := fun r hr x hx => by have := (mem_msets.1 hr).labs x hx; unfold I64; omega
  have hml := Nat.le_trans (msets_len S.length k) (hpow k (Nat.le_refl _))
  have hR := hM.rep h64
  rw [hR.len]
  let p : List Int → Bool := fun c => (prodL (listsAt S c)).any fun c => decide (sortI c ∈ good)
  have hz1 := hE1.size_le
  have hS64 : ∀ y ∈ S, I64 y := fun y hy => by obtain ⟨m, rfl, hm⟩ := hv y hy; unfold I64; omega
  refine ⟨IN2 (msets S.length k).length fun i (out : Sl) w' => Ext w1 w' ∧ Own2 w' w.heap.size T.t_int T.t_sl_int out (((msets S.length k).take i).filter p) ∧ ∀ b, oB out b → w1.heap.size ≤ b, MN2 (msets S.length k).length, IN2_zero ⟨Ext.refl _, by simpa using Own2.nil _ _ _ _, fun b hb => by cases hb⟩, ?_⟩
  rintro out _ w2 ⟨i, rfl, hi, hE2, hO, hob⟩
  intros
  refine cond_dec (fun hlt => ?_) (fun hge => ?_)
  · have hi' : i < (msets S.length k).length := by omega
    have hMi := mem_msets.1 (List.getElem_mem hi')
    have hlen := hMi.len
    refine (hM.ext hE2).ix hi' fun q row hrow hOr hc _ => LD_sl hc ?_
    refine call (coThrough_ok ((hS.ext hE1).ext hE2) (hOr.rep (h64 _ (List.getElem_mem hi'))).any (fun x hx => ?_) (by omega)) ?_
    · have := hMi.labs x hx
      exact ⟨x.toNat, by omega, by omega⟩
    rintro a w3 ⟨hE3, hA⟩
    have hab : ∀ y ∈ (msets S.length k)[i].map fun x => S.getD x.toNat 0, ∃ m : Nat, y = m ∧ m < 256 := fun y hy => by
      obtain ⟨z, hz, rfl⟩ := List.mem_map.1 hy
      have := hMi.labs z hz
      have hz' : z.toNat < S.length := by omega
      simp only [List.getD_eq_getElem?_getD, List.getElem?_eq_getElem hz', Option.getD_some]
      exact hv _ (List.getElem_mem hz')
    have ha64 : ∀ y ∈ (msets S.length k)[i].map fun x => S.getD x.toNat 0, I64 y := fun y hy => by obtain ⟨m, rfl, hm⟩ := hab y hy; unfold I64; omega
    refine call (elChoice_ok (good := good) hab (by rw [List.length_map]; omega) _ (g := g) (ch := ⟨none, 0, 0⟩) (pre := []) (by simp; rfl) (((hg.ext hE1).ext hE2).ext hE3) (hA.rep ha64).any (D := fun _ => False) (nil_at w3 _)) ?_
    rintro r4 b w4 ⟨hE4, hm⟩
    have hb : b = p (msets S.length k)[i] := by
      have e1 : (((msets S.length k)[i].map fun x => S.getD x.toNat 0).drop ([] : List Int).length).map (fun x => labsOf x.toNat) = listsAt S (msets S.length k)[i] := by
        simp [listsAt]
      rw [e1] at hm
      show b = (prodL (listsAt S (msets S.length k)[i])).any fun c => decide (sortI c ∈ good)
      rw [← firstC_some]
      cases hG : firstC (fun c => decide (sortI c ∈ good)) (listsAt S (msets S.length k)[i]) [] with
      | some c => rw [hG] at hm; exact hm.1
      | none => rw [hG] at hm; exact hm
    have hE24 := hE3.trans hE4
    subst hb
    refine cond_b (fun ht => ?_) (fun hf => ?_)
    · refine RUN_lit1 (α := Sl) slt_rows row rfl (by decide) fun y w8 hE8 hO8 => ?_
      have hE28 := hE24.trans hE8
      have hO28 := hO.ext hE28
      have hz2 := hE2.size_le
      have hz8 := hE28.size_le
      have hfl2 : (((msets S.length k).take i).filter p).length ≤ i := Nat.le_trans (List.length_filter_le _ _) (by rw [List.length_take]; omega)
      refine RUN_append_rowG slt_rows (by decide) hO28 (by omega) (hOr.ext hE28) hO8 (by omega) (by unfold maxLen; omega) fun s' w9 hO9 hs9 hn9 => ?_
      refine IN2_next hR.le hi' ⟨hs9.ext0 (hE2.trans hE28) fun b hb => hob b hb, ?_, fun b hb => ?_⟩
      · rw [filter_take_succ hi', if_pos ht]
        exact hO9
      · rcases hn9 with h1 | h1
        · exact hob b (by unfold oB at hb ⊢; rw [← h1]; exact hb)
        · have := h1 b hb; omega
    · refine IN2_next hR.le hi' ⟨hE2.trans hE24, ?_, hob⟩
      rw [filter_take_succ hi', hf]
      simpa using hO.ext hE24
  · have : i = (msets S.length k).length := by omega
    subst this
    rw [List.take_length] at hO
    exact ⟨hE1.trans hE2, hO⟩

end Go.Proofs.YtlmiookpmneicaaGreat
end

section
/- The edge step: the program. -/
namespace Go.Proofs.YtlmiookpmneicaaGreat
open Go.GX Go.RowKit
set_option maxRecDepth 100000

theorem byte_sets {L : List (List Int)} {S : List Int} (hS : S = setsOf L) : ∀ x ∈ S, ∃ m : Nat, x = m ∧ m < 256 := fun x hx => setsOf_byte (by rw [← hS]; exact hx)

def edFew (p : Prob) : Prop := 1 ≤ (edgeSets p).length ∧ (edgeSets p).length ≤ 8
def ndFew (p : Prob) : Prop := ¬ (p.degree = 4 ∧ 6 < p.labels) ∧ 1 ≤ (nodeSets p).length ∧ (nodeSets p).length ≤ 8

theorem edgeStep1_ok {w w' : World} {c d s t : Sl} {p : Prob} {pp ps : Addr} {t0 t1 : TypeId} {S l : List Int} {k : Nat} (h : RProb w c d p) (hs : SmallP p) (hg : PGood p) (hbp : Box w pp t0 [.int .i64 p.labels, .int .i64 p.degree, c.v, d.v]) (hbs : Box w ps t1 [s.v]) (hS : R w s S) (hv : ∀ x ∈ S, ∃ m : Nat, x = m ∧ m < 256)
    (hk : k ≤ 4) (_ : k = 4 ∨ 4 = 4) (hM : InM S.length k l) (hE : Ext w w') (hl : R w' t l) :
    CALLV Tryz.prog (.func (.func F.i_edgeStep_1) #[] #[.pointer (some pp), .pointer (some ps)]) #[t.v] w' (Ret [.at .bool] fun (b : Bool) w'' => b = (prodL (listsAt S l)).any (nodeB p) ∧ Ext w' w'') := by
  refine CALLV_mk (by kernel_rfl) (C_i_edgeStep_1 ?_)
  unfold V_i_edgeStep_1
  intro w1 hE1 _
  replace h := h.ext hE
  replace hbp := hbp.ext hE
  replace hbs := hbs.ext hE
  replace hS := hS.ext hE
  replace h := h.ext hE1
  replace hbp := hbp.ext hE1
  replace hbs := hbs.ext hE1
  replace hS := hS.ext hE1
  replace hl := hl.ext hE1
  have hlen := hM.len
  refine LD_iiss hbp (LD_bs hbs ⟨Ext.refl _, ?_⟩)
  refine call (listsOf_ok hS hl hv hM.labs (by omega)) ?_
  rintro r w2 ⟨hE2, ss, hR⟩
  refine ⟨hE2, ?_⟩
  have h64 : ∀ r ∈ listsAt S l, ∀ x ∈ r, I64 x := fun r hr x hx => by
    obtain ⟨y, _, rfl⟩ := List.mem_map.1 hr
    exact labsOf_I64 _ x hx
  have hll : (listsAt S l).length = k := by unfold listsAt; rw [List.length_map, hlen]
  refine call (nodeChoice_ok (h.ext hE2) hs hg (hR.rep h64) (by omega)) ?_
  rintro e b w3 ⟨hE3, hm⟩
  have hE13 := hE2.trans hE3
  refine ⟨hE13, hE13, hE13, ?_, hE1.trans hE13⟩
  rw [← firstC_some]
  cases hG : firstC (nodeB p) (listsAt S l) [] with
  | some c => rw [hG] at hm; exact hm.1
  | none => rw [hG] at hm; exact hm


theorem nodeStep1_ok {w w' : World} {c d s t : Sl} {p : Prob} {pp ps : Addr} {t0 t1 : TypeId} {S l : List Int} {k : Nat} (h : RProb w c d p) (hs : SmallP p) (hg : PGood p) (hbp : Box w pp t0 [.int .i64 p.labels, .int .i64 p.degree, c.v, d.v]) (hbs : Box w ps t1 [s.v]) (hS : R w s S) (hv : ∀ x ∈ S, ∃ m : Nat, x = m ∧ m < 256)
    (hk : k ≤ 4) (_ : k = 2 ∨ 2 = 4) (hM : InM S.length k l) (hE : Ext w w') (hl : R w' t l) :
    CALLV Tryz.prog (.func (.func F.i_nodeStep_1) #[] #[.pointer (some pp), .pointer (some ps)]) #[t.v] w' (Ret [.at .bool] fun (b : Bool) w'' => b = (prodL (listsAt S l)).any (nodeB2 p) ∧ Ext w' w'') := by
  refine CALLV_mk (by kernel_rfl) (C_i_nodeStep_1 ?_)
  unfold V_i_nodeStep_1
  intro w1 hE1 _
  replace h := h.ext hE
  replace hbp := hbp.ext hE
  replace hbs := hbs.ext hE
  replace hS := hS.ext hE
  replace h := h.ext hE1
  replace hbp := hbp.ext hE1
  replace hbs := hbs.ext hE1
  replace hS := hS.ext hE1
  replace hl := hl.ext hE1
  have hlen := hM.len
  refine LD_iiss hbp (LD_bs hbs ⟨Ext.refl _, ?_⟩)
  refine call (listsOf_ok hS hl hv hM.labs (by omega)) ?_
  rintro r w2 ⟨hE2, ss, hR⟩
  refine ⟨hE2, ?_⟩
  have h64 : ∀ r ∈ listsAt S l, ∀ x ∈ r, I64 x := fun r hr x hx => by
    obtain ⟨y, _, rfl⟩ := List.mem_map.1 hr
    exact labsOf_I64 _ x hx
  have hll : (listsAt S l).length = k := by unfold listsAt; rw [List.length_map, hlen]
  refine call (edgeChoice_ok (h.ext hE2) hs hg (hR.rep h64) (by omega)) ?_
  rintro e b w3 ⟨hE3, hm⟩
  have hE13 := hE2.trans hE3
  refine ⟨hE13, hE13, hE13, ?_, hE1.trans hE13⟩
  rw [← firstC_some]
  cases hG : firstC (nodeB2 p) (listsAt S l) [] with
  | some c => rw [hG] at hm; exact hm.1
  | none => rw [hG] at hm; exact hm


theorem edgeStep_ok {w : World} {c d : Sl} {p : Prob} (h : RProb w c d p) (hs : SmallP p) (hg : PGood p) :
    Calls Tryz.prog F.i_edgeStep #[.agg #[.int .i64 p.labels, .int .i64 p.degree, c.v, d.v]] w (Ret [.agg [.int .i64, .int .i64, .sl, .sl], .at .sl, .at .bool] (StIs w (edgeP p) (edFew p) (edgeSets p))) := by
  refine C_i_edgeStep ?_
  unfold V_i_edgeStep
  refine NEW_intro fun pp w1 hp1 hs1 hE1 hb1 => NEW_intro fun px w2 hp2 hs2 hE2 hb2 => ?_
  have hE := hE1.trans hE2
  replace h := h.ext hE
  replace hb1 := hb1.ext hE2
  have hlab := hg.lab
  have htwo := two_lab hg
  have h64e : ∀ r ∈ edgeFull p, ∀ x ∈ r, I64 x := fun r hr x hx => by obtain ⟨m, rfl, hm⟩ := edge_byte hg r hr x hx; unfold I64; omega
  refine ⟨fun (out : Sl) (x : Int) w' => ∃ m : Nat, x = m ∧ 1 ≤ m ∧ m ≤ 2 ^ p.labels.toNat ∧ Ext w2 w' ∧ ∃ ss, RowsD w' w2.heap.size T.t_int T.t_sl_int out (((List.range m).filter (edF p)).map (edG p)) ss, fun _ x _ => 2 ^ p.labels.toNat - x.toNat,
    ⟨1, rfl, by omega, Nat.one_le_two_pow, Ext.refl _, [], by
      have : ((List.range 1).filter (edF p)).map (edG p) = [] := by simp [List.range_succ, edF]
      rw [this]; exact RowsD.nil _ _ _ _⟩, ?_⟩
  rintro out _ w3 ⟨m, rfl, hm1, hm, hE3, ss, hR⟩
  intros
  replace h := h.ext hE3
  replace hb1 := hb1.ext hE3
  replace hb2 := hb2.ext hE3
  have hz2 := hE.size_le
  have hz3 := hE3.size_le
  refine LD_bi0 hb1 ⟨by omega, ?_⟩
  have en : p.labels = ((p.labels.toNat : Nat) : Int) := by omega
  rw [en, shl_one (by omega), Int.toNat_natCast]
  refine cond_dec (fun hlt => ?_) (fun hge => ?_)
  · have hlt' : m < 2 ^ p.labels.toNat := by omega
    have hlen : (((List.range m).filter (edF p)).map (edG p)).length ≤ m := by
      rw [List.length_map]
      have h1 := List.length_filter_le (edF p) (List.range m)
      rwa [List.length_range] at h1
    have hnext : ∀ {w'}, Ext w3 w' → edF p m = false → (∃ m' : Nat, IntKind.i64.wrap ((m : Int) + 1) = m' ∧ 1 ≤ m' ∧ m' ≤ 2 ^ p.labels.toNat ∧ Ext w2 w' ∧ ∃ ss, RowsD w' w2.heap.size T.t_int T.t_sl_int out (((List.range m').filter (edF p)).map (edG p)) ss) ∧ 2 ^ p.labels.toNat - (IntKind.i64.wrap ((m : Int) + 1)).toNat < 2 ^ p.labels.toNat - ((m : Int)).toNat := fun {w'} hE' hf => by
      rw [wrap_of (by omega) (by omega)]
      refine ⟨⟨m + 1, by omega, by omega, hlt', hE3.trans hE', ss, ?_⟩, by omega⟩
      rw [List.range_succ, List.filter_append, List.map_append]
      simpa [hf] using hR.ext hE'
    refine LD_iiss hb1 ?_
    refine call (beside_ok h hs hg (by omega)) ?_
    rintro _ w4 ⟨rfl, hE4⟩
    refine cond_ne (fun hne => LD_iiss (hb1.ext hE4) ?_) (fun h0 => hnext hE4 (by
      have : ((near p m : Nat) : Int) = 0 := h0
      have h1 : near p m = 0 := by omega
      simp [edF, h1]))
    refine call (beside_ok (h.ext hE4) hs hg (near_lt hg m)) ?_
    rintro _ w5 ⟨rfl, hE5⟩
    have hE35 := hE4.trans hE5
    refine cond_eq (fun heq => ?_) (fun hneq => hnext hE35 (by
      have h1 : near p (near p m) ≠ m := fun h => hneq (by rw [h])
      simp [edF, h1]))
    have hF : edF p m = true := by
      have h1 : near p (near p m) = m := by have : ((near p (near p m) : Nat) : Int) = m := heq; omega
      have h2 : near p m ≠ 0 := fun h => hne (by rw [h]; rfl)
      simp [edF, h1, h2, hm1]
    have hb64 : ∀ x ∈ edG p m, I64 x := fun x hx => by
      have := near_lt hg m
      unfold edG at hx
      rcases List.mem_cons.1 hx with rfl | hx
      · unfold I64; omega
      · rw [List.mem_singleton.1 hx]; unfold I64; omega
    refine RUN_lits slt_int (edG p m) (by simp [edG]) (by simp [edG]) rfl rfl fun x w6 hE6 hO6 => ?_
    have hz5 := hE35.size_le
    refine RUN_lit1 (α := Sl) slt_rows x rfl (by decide) fun y w7 hE7 hO7 => ?_
    have hE37 := (hE35.trans hE6).trans hE7
    have hR7 := hR.ext hE37
    have hz7 := hE37.size_le
    refine RUN_append_rowD slt_rows (by decide) hR7 (by omega) ((hO6.ext hE7).low (by omega)) ((hR.ext hE35).fresh (hO6.ext hE7) (Nat.le_refl _)) hO7 (by omega) (by unfold maxLen; omega) fun s' w8 hR8 hs8 => ?_
    rw [wrap_of (by omega) (by omega)]
    refine ⟨⟨m + 1, by omega, by omega, hlt', hs8.ext0 (hE3.trans hE37) fun k hk => (hR7.own.blk k hk).1, ss ++ [x], ?_⟩, by simp only []; omega⟩
    rw [List.range_succ, List.filter_append, List.map_append]
    simpa [hF] using hR8
  · have : m = 2 ^ p.labels.toNat := by omega
    subst this
    rw [← edgeFull_eq] at hR
    have hel := edge_len hg
    refine call (newLabels_ok (k := 2) (hR.rep h64e) (edge_byte hg) edge_two (by omega) (by omega)) ?_
    rintro a b w4 ⟨hE4, hOa, tt, hRb⟩
    replace h := h.ext hE4
    replace hb1 := hb1.ext hE4
    replace hb2 := hb2.ext hE4
    refine NEW_ST (zs := [.slice none 0 0]) (one1s a) rfl fun ps w5 hps hE5 hb5 => ?_
    replace h := h.ext hE5
    replace hb1 := hb1.ext hE5
    replace hb2 := hb2.ext hE5
    replace hOa := hOa.ext hE5
    replace hRb := hRb.ext hE5
    have hSv : ∀ x ∈ setsOf (edgeFull p), ∃ m : Nat, x = m ∧ m < 256 := byte_sets rfl
    have hS64 : ∀ y ∈ setsOf (edgeFull p), I64 y := fun y hy => by obtain ⟨m, rfl, hm⟩ := setsOf_byte hy; unfold I64; omega
    have hE25 := (hE3.trans hE4).trans hE5
    have hE05 := hE.trans hE25
    have haL : a.len = (setsOf (edgeFull p)).length := hOa.1
    refine LD_bs hb5 ?_
    refine call (within_ok _ _ _ _) ?_
    rintro _ _ ⟨rfl, rfl⟩
    rw [haL]
    refine cond_not (fun hf => ?_) (fun ht => LD_bs hb5 (LD_bi1 hb1 ?_))
    · refine ST_all hb2 (one4p 0 0 ⟨none, 0, 0⟩ ⟨none, 0, 0⟩) rfl fun w6 hs6 hz6 hb6 => ?_
      refine LD_iiss (z := ⟨none, 0, 0⟩) (u := ⟨none, 0, 0⟩) hb6 ⟨hs6.ext0 hE05 fun k hk => by cases hk; have := hE1.size_le; omega, .inr ⟨rfl, fun hfew => ?_⟩⟩
      exact inR_false hf ⟨by have := hfew.1; unfold edgeSets at this; omega, by have := hfew.2; unfold edgeSets at this; omega⟩
    · have hr := inR_true ht
      have hfew : edFew p := ⟨by unfold edgeSets; omega, by unfold edgeSets; omega⟩
      have hd := hg.deg
      have ek : p.degree = ((p.degree.toNat : Nat) : Int) := by omega
      rw [haL, ek]
      refine call (allowedBy_ok (p := fun l => (prodL (listsAt (setsOf (edgeFull p)) l)).any (nodeB p)) (by omega) (by omega) (pow_small8 (by omega) (by omega)) fun l hM w' t hE' hl => edgeStep1_ok h hs hg hb1 hb5 (hOa.rep hS64).any hSv (by omega) (.inr rfl) hM hE' hl) ?_
      rintro z w6 ⟨hE6, ssz, hz⟩
      intro w7 hE7 _
      have hE67 := hE6.trans hE7
      replace hb1 := hb1.ext hE67
      replace hb2 := hb2.ext hE67
      replace hb5 := hb5.ext hE67
      replace hOa := hOa.ext hE67
      replace hRb := hRb.ext hE67
      have hlt2 := hb2.lt
      have hpp : pp.block ≠ px.block := by omega
      have hpsb : ps.block ≠ px.block := by have := hE4.size_le; have := hE25.size_le; omega
      refine ⟨fun b => b = px.block, hpsb, LD_bs hb5 ⟨by rw [add_block]; exact hpp, LD_bi1 hb1 ⟨hpsb, LD_bs hb5 ?_⟩⟩⟩
      rw [haL]
      refine ST_all hb2 (one4p _ _ _ _) rfl fun w8 hs8 hz8 hb8 => ⟨.of_step hs8 fun k hk => by cases hk; rfl, LD_iiss hb8 ?_⟩
      have hz5 := hE25.size_le
      have hkeep : ∀ k, w2.heap.size ≤ k → k < w7.heap.size → w8.heap[k]? = w7.heap[k]? := fun k h1 h2 => hs8.block k h2 (by intro he; cases he; omega)
      have hmade : PGood (edgeP p) := (EdAsked.mk hg hfew).made
      have hE57 : Ext w7 w7 := Ext.refl _
      refine ⟨hs8.ext0 (hE05.trans hE67) fun k hk => by cases hk; have := hE1.size_le; omega, .inl ⟨rfl, hfew, rfl, rfl, NewP.low (base := w2.heap.size) ⟨?_, ?_, ?_, ?_, ?_⟩ hE.size_le⟩⟩
      · show I64 (((edgeSets p).length : Nat) : Int); unfold I64 edgeSets; omega
      · show I64 p.degree; unfold I64; omega
      · refine (((hz.ext hE7).low (b := w2.heap.size) (by omega)).keep hkeep).own2.repD (conf_I64 hmade.nodes hmade.lab.2)
      · refine ((hRb.low (b := w2.heap.size) (by have := hE3.size_le; omega)).keep hkeep).own2.repD (conf_I64 hmade.edges hmade.lab.2)
      · exact (((hOa.low (base' := w2.heap.size) (by have := hE3.size_le; omega)).keep fun k hk => hkeep k (by have := (hOa.blk k hk).1; omega) (hOa.blk k hk).2).rep hS64)

end Go.Proofs.YtlmiookpmneicaaGreat
end

section
/- Lists that are inserted, problems of sets, the edge step: the reference. -/
namespace Go.Proofs.YtlmiookpmneicaaGreat
open Go.GX Go.RowKit
set_option maxRecDepth 100000

/-- Slices that read as lists, in blocks from a number on. -/
def Al (w : World) (base : Nat) (ss : List Sl) (L : List (List Int)) : Prop := ss.length = L.length ∧ ∀ i (h1 : i < ss.length) (h2 : i < L.length), SlR (fun b => base ≤ b) w ss[i] L[i]

theorem Al.ext {w w' : World} {base : Nat} {ss : List Sl} {L : List (List Int)} (h : Al w base ss L) (hE : Ext w w') : Al w' base ss L := ⟨h.1, fun i h1 h2 => (h.2 i h1 h2).ext hE⟩
theorem Al.keep {w w' : World} {base : Nat} {ss : List Sl} {L : List (List Int)} (h : Al w base ss L) {g : Option Nat} (hs : Step w w' g) (hg : ∀ k, g = some k → k < base) : Al w' base ss L := ⟨h.1, fun i h1 h2 => (h.2 i h1 h2).stepD hs fun b hb he => by have := hg b he; omega⟩

theorem al_insert {w : World} {base : Nat} {ss : List Sl} {L : List (List Int)} {x : Sl} {xl : List Int} (h : Al w base ss L) (hx : SlR (fun b => base ≤ b) w x xl) {k : Nat} (hk : k ≤ L.length) : Al w base (ss.take k ++ [x] ++ ss.drop k) (L.take k ++ [xl] ++ L.drop k) := by
  have hl := h.1
  refine ⟨by simp; omega, fun i h1 h2 => ?_⟩
  simp only [List.length_append, List.length_take, List.length_cons, List.length_nil, List.length_drop] at h1 h2
  simp only [List.append_assoc, List.singleton_append]
  by_cases h3 : i < k
  · rw [List.getElem_append_left (by simp; omega), List.getElem_append_left (by simp; omega)]
    simp only [List.getElem_take]
    exact h.2 i (by omega) (by omega)
  · rw [List.getElem_append_right (by simp; omega), List.getElem_append_right (by simp; omega)]
    simp only [List.length_take, Nat.min_eq_left hk, Nat.min_eq_left (show k ≤ ss.length by omega)]
    by_cases h4 : i = k
    · subst h4
      simp only [Nat.sub_self, List.getElem_cons_zero]
      exact hx
    · obtain ⟨j, hj⟩ : ∃ j, i - k = j + 1 := ⟨i - k - 1, by omega⟩
      simp only [hj, List.getElem_cons_succ, List.getElem_drop]
      exact h.2 (k + j) (by omega) (by omega)

theorem insert_rise {L : List (List Int)} {x : List Int} (hr : L.Pairwise fun a b => cmpL a b < 0) {k : Nat} (hk : k ≤ L.length) (hlt : ∀ j (hj : j < L.length), j < k → cmpL L[j] x < 0) (hge : ∀ h : k < L.length, cmpL x L[k] < 0) : (L.take k ++ [x] ++ L.drop k).Pairwise fun a b => cmpL a b < 0 := by
  have hx : ∀ y ∈ L.drop k, cmpL x y < 0 := fun y hy => by
    obtain ⟨j, hj, rfl⟩ := List.mem_iff_getElem.1 hy
    simp only [List.length_drop] at hj
    rw [List.getElem_drop]
    have h1 := hge (by omega)
    by_cases h0 : j = 0
    · subst h0; simpa using h1
    · exact cmpL_trans h1 (List.pairwise_iff_getElem.1 hr k (k + j) (by omega) (by omega) (by omega))
  have ht : ∀ y ∈ L.take k, cmpL y x < 0 := fun y hy => by
    obtain ⟨j, hj, rfl⟩ := List.mem_take_iff_getElem.1 hy
    exact hlt j (by omega) (by omega)
  have hL : (L.take k ++ L.drop k).Pairwise fun a b => cmpL a b < 0 := by rw [List.take_append_drop]; exact hr
  rw [List.pairwise_append] at hL
  rw [List.append_assoc, List.pairwise_append]
  refine ⟨hL.1, ?_, fun a ha b hb => ?_⟩
  · rw [List.singleton_append, List.pairwise_cons]
    exact ⟨hx, hL.2.1⟩
  · rcases List.mem_append.1 hb with h1 | h1
    · rw [List.mem_singleton.1 h1]; exact ht a ha
    · exact hL.2.2 a ha b h1

theorem insert_mem {L : List (List Int)} {x y : List Int} {k : Nat} : y ∈ L.take k ++ [x] ++ L.drop k ↔ y ∈ L ∨ y = x := by
  have h1 : y ∈ L ↔ y ∈ L.take k ∨ y ∈ L.drop k := by
    conv => lhs; rw [← List.take_append_drop k L]
    exact List.mem_append
  rw [List.mem_append, List.mem_append, List.mem_singleton, h1]
  constructor
  · rintro ((h | h) | h)
    · exact .inl (.inl h)
    · exact .inr h
    · exact .inl (.inr h)
  · rintro ((h | h) | h)
    · exact .inl (.inl h)
    · exact .inr h
    · exact .inl (.inr h)

theorem all_succ2 {L : List (List Int)} {xl : List Int} {k : Nat} (h : ∀ j (hj : j < L.length), j < k → cmpL L[j] xl < 0) (hk : k < L.length) (hx : cmpL L[k] xl < 0) : ∀ j (hj : j < L.length), j < k + 1 → cmpL L[j] xl < 0 := fun j hj hjk => by
  by_cases he : j = k
  · subst he; exact hx
  · exact h j hj (by omega)

/-- What inserting makes of a list. -/
def Ins (w : World) (base : Nat) (L : List (List Int)) (xl : List Int) (r : Sl) (w' : World) : Prop :=
  Ext w w' ∧ ∃ ss' L', OwnL w' base T.t_sl_int r ss' ∧ Al w' base ss' L' ∧ (L'.Pairwise fun a b => cmpL a b < 0) ∧ (∀ y, y ∈ L' ↔ y ∈ L ∨ y = xl) ∧ L'.length ≤ L.length + 1

theorem prInsert_ok {w : World} {base : Nat} {s x : Sl} {ss : List Sl} {L : List (List Int)} {xl : List Int} {c : Int} (h : OwnL w base T.t_sl_int s ss) (ha : Al w base ss L) (hx : SlR (fun b => base ≤ b) w x xl) (hr : L.Pairwise fun a b => cmpL a b < 0)
    (hL : ∀ r ∈ L, r.length = xl.length ∧ AllIn r 0 c) (hxc : AllIn xl 0 c) (hc : c ≤ 1000) (hl : L.length ≤ 1000000) (hb : base ≤ w.heap.size) :
    Calls Tryz.prog F.s_prInsert #[s.v, x.v] w (Ret [.at .sl] (Ins w base L xl)) := by
  refine C_s_prInsert ?_
  unfold V_s_prInsert
  have hls := ha.1
  have hR : R w s L := h.rows ha.1 (fun i h1 h2 => (ha.2 i h1 h2).any) (fun _ _ => trivial)
  have hS : R w s ss := (h.rep fun _ _ => trivial).any
  have k4 : ∀ {w1 : World} (k : Nat), Ext w w1 → k ≤ L.length → (∀ j (hj : j < L.length), j < k → cmpL L[j] xl < 0) → (∀ hk : k < L.length, cmpL xl L[k] < 0) → V_s_prInsert_k4 s x (Ins w base L xl) (k : Int) w1 := fun {w1} k hE1 hk hlt hge => by
    unfold V_s_prInsert_k4
    refine RUN_lit0 (α := Sl) slt_rows fun e w2 hE2 hO2 => ?_
    have hE12 := hE1.trans hE2
    refine SlR.take (hS.ext hE12) (i := k) (by omega) rfl fun s1 hs1 => ?_
    have hz := hE12.size_le
    have hz1 := hE1.size_le
    have hz2 := hE2.size_le
    have hh1 : (ss.take k).length ≤ k := by rw [List.length_take]; omega
    refine RUN_append (α := Sl) slt_rows hO2 (by omega) hs1.any (by simp; omega) (by simp [maxLen]; omega) fun a w3 hO3 hs3 => ?_
    have hE3 : Ext w1 w3 := hs3.ext0 hE2 fun k hk => (hO2.blk k hk).1
    refine RUN_lit1 (α := Sl) slt_rows x rfl (by decide) fun y w4 hE4 hO4 => ?_
    have hE14 := hE3.trans hE4
    have hz4 := hE14.size_le
    refine RUN_append (α := Sl) slt_rows (hO3.ext hE4) (by omega) (hO4.rep fun _ _ => trivial).any (by simp; omega) (by simp [maxLen]; omega) fun a2 w5 hO5 hs5 => ?_
    have hE5 : Ext w1 w5 := hs5.ext0 hE14 fun k hk => ((hO3.ext hE4).blk k hk).1
    have hz5 := hE5.size_le
    refine slr_drop (hS.ext (hE1.trans hE5)) (i := k) (by omega) rfl fun s2 hs2 => ?_
    refine RUN_append (α := Sl) slt_rows hO5 (by omega) hs2.any (by simp; omega) (by simp [maxLen]; omega) fun a3 w6 hO6 hs6 => ?_
    have hE6 : Ext w1 w6 := hs6.ext0 hE5 fun k hk => (hO5.blk k hk).1
    have hE06 := hE1.trans hE6
    refine ⟨hE06, ss.take k ++ [x] ++ ss.drop k, L.take k ++ [xl] ++ L.drop k, ?_, al_insert (ha.ext hE06) (hx.ext hE06) hk, insert_rise hr hk hlt hge, fun y => insert_mem, by simp; omega⟩
    have := hO6.low (base' := base) (by omega)
    simpa using this
  have hRl := hR.len
  rw [hRl]
  have k1 : ∀ {w1 : World} (k : Nat), Ext w w1 → k ≤ L.length → (∀ j (hj : j < L.length), j < k → cmpL L[j] xl < 0) → (∀ hk : k < L.length, ¬ cmpL L[k] xl < 0) → V_s_prInsert_k1 s x (Ins w base L xl) (k : Int) w1 := fun {w1} k hE1 hk hlt hge => by
    unfold V_s_prInsert_k1
    rw [hRl]
    refine cond_dec (fun hlt2 => ?_) (fun hge2 => k4 k hE1 hk hlt fun h => absurd h (by omega))
    have hk' : k < L.length := by omega
    refine (hR.ext hE1).ixL hk' fun q r hRr hc => LD_sl hc ?_
    refine call (l1Same_ok hRr.any (hx.any.ext hE1)) ?_
    rintro _ w2 ⟨rfl, hE2⟩
    have hE02 := hE1.trans hE2
    refine cond_dec (fun heq => ?_) (fun hne => k4 k hE02 hk hlt fun _ => ?_)
    · refine ⟨hE02, ss, L, h.ext hE02, ha.ext hE02, hr, fun y => ⟨fun hy => .inl hy, ?_⟩, by omega⟩
      rintro (hy | rfl)
      · exact hy
      · rw [← heq]; exact List.getElem_mem hk'
    · have h1 := hge hk'
      have h2 := cmpL_neg L[k] xl
      rcases Int.lt_or_eq_of_le (show cmpL xl L[k] ≤ 0 by omega) with h3 | h3
      · exact h3
      · exact absurd (cmpL_zero.1 h3).symm hne
  refine ⟨IN L.length fun k w' => Ext w w' ∧ ∀ j (hj : j < L.length), j < k → cmpL L[j] xl < 0, MN L.length, IN_zero ⟨Ext.refl _, fun j _ h0 => absurd h0 (by omega)⟩, ?_⟩
  rintro _ w1 ⟨k, rfl, hk, hE1, hI⟩
  intros
  refine cond_dec (fun hlt => ?_) (fun hge => k1 k hE1 hk hI fun h => absurd h (by omega))
  have hk' : k < L.length := by omega
  have hLk := hL _ (List.getElem_mem hk')
  refine (hR.ext hE1).ixL hk' fun q r hRr hcell => LD_sl hcell ?_
  refine call (prOrder_ok hRr.any (hx.any.ext hE1) hLk.1 hc hLk.2 hxc) ?_
  rintro _ _ ⟨rfl, rfl⟩
  refine cond_dec (fun hlt2 => ?_) (fun hge2 => k1 k hE1 hk hI fun _ => hge2)
  exact IN_next hR.le hk' ⟨hE1, all_succ2 hI hk' hlt2⟩

/-! ### Problems of sets -/

theorem rise_byte_len {m : List Int} (hr : m.Pairwise (· < ·)) (hb : ∀ x ∈ m, ∃ k : Nat, x = k ∧ k < 256) : m.length ≤ 256 := by
  have hB : Byte [m] := fun l hl x hx => by rw [List.mem_singleton.1 hl] at hx; exact hb x hx
  have : m = setsOf [m] := setsOf_eq hB hr fun x => by simp
  rw [this]
  exact setsOf_len _

def madeP (p : Prob) (e : Bool) (L : List (List Int)) (k : Nat) : Prob :=
  bif e then ⟨((setsOf L).length : Nat), p.degree, someOf (nodeB p) (setsOf L) p.degree.toNat, ownOf L k⟩ else ⟨((setsOf L).length : Nat), p.degree, ownOf L k, someOf (nodeB2 p) (setsOf L) 2⟩

theorem own_I64 {n k : Nat} (hn : n ≤ 256) (f : List Int → Bool) : ∀ r ∈ (msets n k).filter f, ∀ x ∈ r, I64 x := fun r hr x hx => by
  have := (mem_msets.1 (List.mem_filter.1 hr).1).labs x hx
  unfold I64; omega

theorem elMade_ok {w : World} {c d s : Sl} {p : Prob} {L : List (List Int)} {k : Nat} (e : Bool) (h : RProb w c d p) (hg : PGood p) (hL : R w s L) (hB : Byte L) (hk : ∀ r ∈ L, r.length = k) (hk4 : k ≤ 4) (hl : L.length ≤ 262144) :
    Calls Tryz.prog F.s_elMade #[.agg #[.int .i64 p.labels, .int .i64 p.degree, c.v, d.v], s.v, .bool e] w (Ret [.agg [.int .i64, .int .i64, .sl, .sl], .at .sl, .at .bool] (StIs w (madeP p e L k) (1 ≤ (setsOf L).length ∧ (setsOf L).length ≤ 8) (setsOf L))) := by
  refine C_s_elMade ?_
  unfold V_s_elMade
  refine NEW_intro fun pp w1 hp1 hs1 hE1 hb1 => NEW_intro fun px w2 hp2 hs2 hE2 hb2 => ?_
  have hE := hE1.trans hE2
  replace h := h.ext hE
  replace hL := hL.ext hE
  replace hb1 := hb1.ext hE2
  have h64 := flat_okII hL
  have hzE := hE.size_le
  have hd := hg.deg
  rw [hL.len]
  let D : Nat → Prop := fun b => w2.heap.size ≤ b
  refine ⟨IN2 L.length fun i (x : Sl) w' => Ext w2 w' ∧ ∃ m, SlR D w' x m ∧ m.Pairwise (· < ·) ∧ ∀ y, y ∈ m ↔ ∃ l ∈ L.take i, y ∈ l, MN2 L.length, IN2_zero ⟨Ext.refl _, [], (OwnL.nil w2 w2.heap.size T.t_int).rep (by simp), List.Pairwise.nil, by simp⟩, ?_⟩
  rintro x _ w3 ⟨i, rfl, hi, hE3, m, hm, hmr, hmm⟩
  intros
  refine cond_dec (fun hlt => ?_) (fun hge => ?_)
  · have hi' : i < L.length := by omega
    refine (hL.ext hE3).ixL hi' fun q row hrow hc => LD_sl hc ?_
    rw [hrow.len]
    refine ⟨IN2 L[i].length fun j (x : Sl) w' => Ext w3 w' ∧ ∃ m, SlR D w' x m ∧ m.Pairwise (· < ·) ∧ ∀ y, y ∈ m ↔ (∃ l ∈ L.take i, y ∈ l) ∨ y ∈ L[i].take j, MN2 L[i].length, IN2_zero ⟨Ext.refl _, m, hm, hmr, by simpa using hmm⟩, ?_⟩
    rintro x' _ w4 ⟨j, rfl, hj, hE4, m', hm', hmr', hmm'⟩
    intros
    refine cond_dec (fun hlt2 => ?_) (fun hge2 => ?_)
    · have hj' : j < L[i].length := by omega
      refine (hrow.ext hE4).ixI hj' fun q _ hc => LD_int hc ?_
      have hbm : ∀ y ∈ m', ∃ k : Nat, y = k ∧ k < 256 := fun y hy => by
        rcases (hmm' y).1 hy with ⟨l, hl1, hl2⟩ | h1
        · exact hB l (List.mem_of_mem_take hl1) y hl2
        · exact hB _ (List.getElem_mem hi') y (List.mem_of_mem_take h1)
      have hml := rise_byte_len hmr' hbm
      refine call (l1Put_D hm' (by omega) hmr' (h64 _ (List.getElem_mem hi') _ (List.getElem_mem hj'))) ?_
      rintro r w5 ⟨hE5, m5, hm5, hmr5, hmm5, _⟩
      have hz4 := (hE3.trans hE4).size_le
      refine IN2_next hrow.le hj' ⟨hE4.trans hE5, m5, hm5.weak (fun b hb _ => ?_) RepP.pos, hmr5, fun y => ?_⟩
      · show w2.heap.size ≤ b
        rcases hb with h1 | h1
        · exact h1
        · omega
      · rw [hmm5, hmm', List.take_succ_eq_append_getElem hj', List.mem_append, List.mem_singleton, or_assoc]
    · have : j = L[i].length := by omega
      subst this
      rw [List.take_length] at hmm'
      refine IN2_next hL.le hi' ⟨hE3.trans hE4, m', hm', hmr', fun y => ?_⟩
      rw [hmm', List.take_succ_eq_append_getElem hi']
      simp only [List.mem_append, List.mem_singleton]
      constructor
      · rintro (⟨l, h1, h2⟩ | h1)
        · exact ⟨l, .inl h1, h2⟩
        · exact ⟨_, .inr rfl, h1⟩
      · rintro ⟨l, h1 | rfl, h2⟩
        · exact .inl ⟨l, h1, h2⟩
        · exact .inr h2
  · have : i = L.length := by omega
    subst this
    rw [List.take_length] at hmm
    have hme : m = setsOf L := setsOf_eq hB hmr hmm
    subst hme
    clear hmm
    have hSv : ∀ x ∈ setsOf L, ∃ m : Nat, x = m ∧ m < 256 := byte_sets rfl
    have hSr := setsOf_rise L
    have hSl := setsOf_len L
    have hn64 : ∀ r ∈ L.map (numsOf (setsOf L)), ∀ y ∈ r, I64 y := fun r hr y hy => by
      have := (nums_inM hB hk r hr).labs y hy
      unfold I64; omega
    have hlt2 := hb2.lt
    refine call (l1In_ok _ _ _ _) ?_
    rintro _ _ ⟨rfl, rfl⟩
    rw [hm.len]
    have hz3 := hE3.size_le
    refine cond_not (fun hf => ?_) (fun ht => LD_bi1 (hb1.ext hE3) ?_)
    · refine ST_all (hb2.ext hE3) (one4p 0 0 ⟨none, 0, 0⟩ ⟨none, 0, 0⟩) rfl fun w6 hs6 hz6 hb6 => ?_
      refine LD_iiss (z := ⟨none, 0, 0⟩) (u := ⟨none, 0, 0⟩) hb6 ⟨hs6.ext0 (hE.trans hE3) fun k hk => by cases hk; have := hE1.size_le; omega, .inr ⟨rfl, fun hfew => ?_⟩⟩
      exact inR_false hf ⟨by omega, by omega⟩
    · have hfew := inR_true ht
      refine NEW_ST (one4p (((setsOf L).length : Nat) : Int) p.degree ⟨none, 0, 0⟩ ⟨none, 0, 0⟩) rfl fun pm w9 hpm hE9 hb9 => ?_
      have hlt9 := hb9.lt
      have hE29 := hE3.trans hE9
      have hz9 := hE29.size_le
      have hS9 := (hm.ext hE9).any
      have hL9 := (hL.ext hE29)
      refine ⟨IN2 L.length fun i (x : Sl) w' => Ext w9 w' ∧ ∃ ss' L', OwnL w' w9.heap.size T.t_sl_int x ss' ∧ Al w' w9.heap.size ss' L' ∧ (L'.Pairwise fun a b => cmpL a b < 0) ∧ (∀ y, y ∈ L' ↔ y ∈ (L.take i).map (numsOf (setsOf L))) ∧ L'.length ≤ i, MN2 L.length,
        IN2_zero ⟨Ext.refl _, [], [], OwnL.nil _ _ _, ⟨rfl, fun i h1 => absurd h1 (by simp)⟩, List.Pairwise.nil, by simp, by simp⟩, ?_⟩
      rintro y _ w10 ⟨i, rfl, hi, hE10, ss', L', hO10, hA10, hr10, hm10, hl10⟩
      intros
      have hz10 := hE10.size_le
      refine cond_dec (fun hlt => ?_) (fun hge => ?_)
      · have hi' : i < L.length := by omega
        refine (hL9.ext hE10).ixL hi' fun q row hrow hc => LD_sl hc ?_
        have hrl := hk _ (List.getElem_mem hi')
        refine call (elNumbers_ok (hS9.ext hE10) hrow.any hSr (fun z hz => (mem_setsOf hB).2 ⟨_, List.getElem_mem hi', hz⟩) hSl (by omega)) ?_
        rintro u w11 ⟨hE11, hO11⟩
        have hin : numsOf (setsOf L) L[i] ∈ L.map (numsOf (setsOf L)) := List.mem_map.2 ⟨_, List.getElem_mem hi', rfl⟩
        have hMi := nums_inM hB hk _ hin
        have hu : SlR (fun b => w9.heap.size ≤ b) w11 u (numsOf (setsOf L) L[i]) := (hO11.rep (hn64 _ hin)).weak (fun b hb _ => Nat.le_trans hz10 hb) RepP.pos
        refine call (prInsert_ok (c := 255) (hO10.ext hE11) (hA10.ext hE11) hu hr10 (fun r hr => ?_) (fun z hz => ?_) (by omega) (by omega) (by have := hE11.size_le; omega)) ?_
        · have h1 := (hm10 r).1 hr
          have hM := nums_inM hB hk r (by obtain ⟨l, hl1, rfl⟩ := List.mem_map.1 h1; exact List.mem_map.2 ⟨l, List.mem_of_mem_take hl1, rfl⟩)
          exact ⟨by rw [hM.len, hMi.len], fun z hz => by have := hM.labs z hz; omega⟩
        · have := hMi.labs z hz; omega
        rintro r w12 ⟨hE12, ss2, L2, hO12, hA12, hr12, hm12, hl12⟩
        refine IN2_next hL.le hi' ⟨hE10.trans (hE11.trans hE12), ss2, L2, hO12, hA12, hr12, fun z => ?_, by omega⟩
        rw [hm12, hm10, map_take_succ hi', List.mem_append, List.mem_singleton]
      · have : i = L.length := by omega
        subst this
        rw [List.take_length] at hm10
        have hLe : L' = ownOf L k := confOf_eq hr10 hm10 (nums_inM hB hk)
        subst hLe
        have hY : SlR (fun b => w9.heap.size ≤ b) w10 y (ownOf L k) := hO10.rows hA10.1 hA10.2 (fun b hb => hb)
        have hE0 : Ext w w9 := hE.trans hE29
        have hE310 : Ext w3 w10 := hE9.trans hE10
        have hE010 : Ext w w10 := hE.trans (hE3.trans hE310)
        have hpmne : ∀ b, w9.heap.size ≤ b → b ≠ pm.block := fun b hb he => by omega
        have hppne : pp.block ≠ pm.block := by have := hE1.size_le; omega
        have hpxne : px.block ≠ pm.block := by omega
        have hwpm : w3.heap.size ≤ pm.block := by omega
        have ek : p.degree = ((p.degree.toNat : Nat) : Int) := by omega
        have e2 : (2 : Int) = ((2 : Nat) : Int) := rfl
        cases e with
        | true =>
          refine cond_t rfl ?_
          refine ST_box1 (i := 3) (hb9.ext hE10) (by simp) rfl fun w13 hz13 hk13 hX13 hb13 => ?_
          have hE313 : Ext w3 w13 := hX13 w3 hE310 hwpm
          have hb1' := hb1.ext (hE3.trans hE313)
          refine LD_bs2 hb1' (LD_bi1 hb1' ?_)
          rw [ek]
          refine call (elSome_ok (good := p.nodes) (k := p.degree.toNat) (h.ext (hE3.trans hE313)).nodes (hm.ext hE313).any hSv (by omega) (by omega)) ?_
          rintro r w14 ⟨hE14, hO14⟩
          refine ST_box1 (i := 2) (hb13.ext hE14) (by simp) rfl fun w15 hz15 hk15 hX15 hb15 => ?_
          have hE315 : Ext w3 w15 := hX15 w3 (hE313.trans hE14) hwpm
          refine LD_iiss (z := r) (u := y) hb15 ?_
          refine ST_all (hb2.ext (hE3.trans hE315)) (one4p _ _ _ _) rfl fun w19 hs19 hz19 hb19 => LD_iiss hb19 ?_
          have hYw : SlR (fun b => w9.heap.size ≤ b) w19 y (ownOf L k) := ((((hY.agr fun b hb => hk13 b (hpmne b hb)).ext hE14).agr fun b hb => hk15 b (hpmne b hb)).stepD hs19 fun b hb he => by cases he; omega)
          have hNk : Own2 w19 w13.heap.size T.t_int T.t_sl_int r _ := (hO14.keep fun b hb _ => hk15 b (hpmne b (by omega))).keep fun b hb hlt => hs19.block b hlt (by intro he; cases he; omega)
          have hNw := hNk.repD (own_I64 (by omega) _)
          have hz913 : w9.heap.size ≤ w13.heap.size := by omega
          refine ⟨hs19.ext0 (hE.trans (hE3.trans hE315)) fun k hk => by cases hk; have := hE1.size_le; omega, .inl ⟨rfl, ⟨by omega, by omega⟩, rfl, rfl, NewP.low (base := w2.heap.size) ⟨?_, ?_, hNw.weak (fun b hb _ => by omega) RepP.pos, hYw.weak (fun b hb _ => by omega) RepP.pos, ((hm.ext hE315).stepD hs19 fun b hb he => by cases he; have : w2.heap.size ≤ px.block := hb; omega)⟩ hzE⟩⟩
          · show I64 (((setsOf L).length : Nat) : Int); unfold I64; omega
          · show I64 p.degree; unfold I64; omega
        | false =>
          refine cond_f rfl ?_
          refine ST_box1 (i := 2) (hb9.ext hE10) (by simp) rfl fun w13 hz13 hk13 hX13 hb13 => ?_
          have hE313 : Ext w3 w13 := hX13 w3 hE310 hwpm
          have hb1' := hb1.ext (hE3.trans hE313)
          refine LD_bs3 hb1' ?_
          rw [e2]
          refine call (elSome_ok (good := p.edges) (k := 2) (h.ext (hE3.trans hE313)).edges (hm.ext hE313).any hSv (by omega) (by omega)) ?_
          rintro r w14 ⟨hE14, hO14⟩
          refine ST_box1 (i := 3) (hb13.ext hE14) (by simp) rfl fun w15 hz15 hk15 hX15 hb15 => ?_
          have hE315 : Ext w3 w15 := hX15 w3 (hE313.trans hE14) hwpm
          refine LD_iiss (z := y) (u := r) hb15 ?_
          refine ST_all (hb2.ext (hE3.trans hE315)) (one4p _ _ _ _) rfl fun w19 hs19 hz19 hb19 => LD_iiss hb19 ?_
          have hYw : SlR (fun b => w9.heap.size ≤ b) w19 y (ownOf L k) := ((((hY.agr fun b hb => hk13 b (hpmne b hb)).ext hE14).agr fun b hb => hk15 b (hpmne b hb)).stepD hs19 fun b hb he => by cases he; omega)
          have hNk : Own2 w19 w13.heap.size T.t_int T.t_sl_int r _ := (hO14.keep fun b hb _ => hk15 b (hpmne b (by omega))).keep fun b hb hlt => hs19.block b hlt (by intro he; cases he; omega)
          have hNw := hNk.repD (own_I64 (by omega) _)
          have hz913 : w9.heap.size ≤ w13.heap.size := by omega
          refine ⟨hs19.ext0 (hE.trans (hE3.trans hE315)) fun k hk => by cases hk; have := hE1.size_le; omega, .inl ⟨rfl, ⟨by omega, by omega⟩, rfl, rfl, NewP.low (base := w2.heap.size) ⟨?_, ?_, hYw.weak (fun b hb _ => by omega) RepP.pos, hNw.weak (fun b hb _ => by omega) RepP.pos, ((hm.ext hE315).stepD hs19 fun b hb he => by cases he; have : w2.heap.size ≤ px.block := hb; omega)⟩ hzE⟩⟩
          · show I64 (((setsOf L).length : Nat) : Int); unfold I64; omega
          · show I64 p.degree; unfold I64; omega

end Go.Proofs.YtlmiookpmneicaaGreat
end

section
/- The edge step of problems that are asked for, both sides; what sets there are. -/
namespace Go.Proofs.YtlmiookpmneicaaGreat
open Go.GX Go.RowKit
set_option maxRecDepth 100000

theorem StIs.through {w w1 w2 : World} {q : Prob} {few : Prop} {S : List Int} {x y : Int} {z u a : Sl} {b : Bool} {px : Addr} {Q : Int → Int → Sl → Sl → World → Prop} (h : StIs w1 q few S x y z u a b w2) (hE : Ext w w1) (hb : Box w2 px T.t_i_Problem [.int .i64 0, .int .i64 0, .slice none 0 0, .slice none 0 0]) (h1 : w.heap.size ≤ px.block) (h2 : px.block < w1.heap.size)
    (hQ : ∀ w', StIs w q few S x y z u a b w' → Q x y z u w') : ST px 0 [.int .i64 x, .int .i64 y, z.v, u.v] w2 fun w' => LD [.int .i64, .int .i64, .sl, .sl] px w' fun (x' : Int) (y' : Int) (z' : Sl) (u' : Sl) => Q x' y' z' u' w' := by
  refine ST_all hb (one4p _ _ _ _) rfl fun w3 hs3 hz3 hb3 => LD_iiss hb3 (hQ w3 ?_)
  obtain ⟨hE2, hr⟩ := h
  refine ⟨hs3.ext0 (hE.trans hE2) fun k hk => by cases hk; omega, ?_⟩
  rcases hr with ⟨r1, r2, r3, r4, r5⟩ | hr
  · exact .inl ⟨r1, r2, r3, r4, (r5.step hs3 h2).low hE.size_le⟩
  · exact .inr hr

/-- Zeros in place of a problem. -/
theorem zero_problem {w w2 : World} {px : Addr} {Q : Int → Int → Sl → Sl → World → Prop} (hE : Ext w w2) (hb : Box w2 px T.t_i_Problem [.int .i64 0, .int .i64 0, .slice none 0 0, .slice none 0 0]) (h1 : w.heap.size ≤ px.block)
    (hQ : ∀ w', Ext w w' → Q 0 0 ⟨none, 0, 0⟩ ⟨none, 0, 0⟩ w') : ST px 0 [.int .i64 0, .int .i64 0, .slice none 0 0, .slice none 0 0] w2 fun w' => LD [.int .i64, .int .i64, .sl, .sl] px w' fun (x' : Int) (y' : Int) (z' : Sl) (u' : Sl) => Q x' y' z' u' w' := by
  refine ST_all hb (one4p 0 0 ⟨none, 0, 0⟩ ⟨none, 0, 0⟩) rfl fun w3 hs3 hz3 hb3 => ?_
  exact LD_iiss (z := ⟨none, 0, 0⟩) (u := ⟨none, 0, 0⟩) hb3 (hQ w3 (hs3.ext0 hE fun k hk => by cases hk; omega))

theorem made_edge (p : Prob) : madeP p true (edgeFull p) 2 = edgeP p := rfl
theorem made_node (p : Prob) : madeP p false (nodeFull p) p.degree.toNat = nodeP p := rfl

theorem elEdge_ok {w : World} {c d : Sl} {p : Prob} (h : RProb w c d p) (hg : PGood p) :
    Calls Tryz.prog F.s_elEdge #[.agg #[.int .i64 p.labels, .int .i64 p.degree, c.v, d.v]] w (Ret [.agg [.int .i64, .int .i64, .sl, .sl], .at .sl, .at .bool] (StIs w (edgeP p) (edFew p) (edgeSets p))) := by
  refine C_s_elEdge ?_
  unfold V_s_elEdge
  refine NEW_intro fun pp w1 hp1 hs1 hE1 hb1 => NEW_intro fun px w2 hp2 hs2 hE2 hb2 => ?_
  have hE := hE1.trans hE2
  replace h := h.ext hE
  replace hb1 := hb1.ext hE2
  have hlab := hg.lab
  have htwo := two_lab hg
  have h64e : ∀ r ∈ edgeFull p, ∀ x ∈ r, I64 x := fun r hr x hx => by obtain ⟨m, rfl, hm⟩ := edge_byte hg r hr x hx; unfold I64; omega
  refine ⟨fun (out : Sl) (x : Int) w' => ∃ m : Nat, x = m ∧ 1 ≤ m ∧ m ≤ 2 ^ p.labels.toNat ∧ Ext w2 w' ∧ ∃ ss, RowsD w' w2.heap.size T.t_int T.t_sl_int out (((List.range m).filter (edF p)).map (edG p)) ss, fun _ x _ => 2 ^ p.labels.toNat - x.toNat,
    ⟨1, rfl, by omega, Nat.one_le_two_pow, Ext.refl _, [], by
      have : ((List.range 1).filter (edF p)).map (edG p) = [] := by simp [List.range_succ, edF]
      rw [this]; exact RowsD.nil _ _ _ _⟩, ?_⟩
  rintro out _ w3 ⟨m, rfl, hm1, hm, hE3, ss, hR⟩
  intros
  replace h := h.ext hE3
  replace hb1 := hb1.ext hE3
  replace hb2 := hb2.ext hE3
  have hz2 := hE.size_le
  have hz3 := hE3.size_le
  refine LD_bi0 hb1 ⟨by omega, ?_⟩
  have en : p.labels = ((p.labels.toNat : Nat) : Int) := by omega
  rw [en, shl_one (by omega), Int.toNat_natCast]
  refine cond_dec (fun hlt => ?_) (fun hge => ?_)
  · have hlt' : m < 2 ^ p.labels.toNat := by omega
    have hlen : (((List.range m).filter (edF p)).map (edG p)).length ≤ m := by
      rw [List.length_map]
      have h1 := List.length_filter_le (edF p) (List.range m)
      rwa [List.length_range] at h1
    have hnext : ∀ {w'}, Ext w3 w' → edF p m = false → (∃ m' : Nat, IntKind.i64.wrap ((m : Int) + 1) = m' ∧ 1 ≤ m' ∧ m' ≤ 2 ^ p.labels.toNat ∧ Ext w2 w' ∧ ∃ ss, RowsD w' w2.heap.size T.t_int T.t_sl_int out (((List.range m').filter (edF p)).map (edG p)) ss) ∧ 2 ^ p.labels.toNat - (IntKind.i64.wrap ((m : Int) + 1)).toNat < 2 ^ p.labels.toNat - ((m : Int)).toNat := fun {w'} hE' hf => by
      rw [wrap_of (by omega) (by omega)]
      refine ⟨⟨m + 1, by omega, by omega, hlt', hE3.trans hE', ss, ?_⟩, by omega⟩
      rw [List.range_succ, List.filter_append, List.map_append]
      simpa [hf] using hR.ext hE'
    refine LD_iiss hb1 ?_
    refine call (elNear_ok h hg) ?_
    rintro _ w4 ⟨rfl, hE4⟩
    refine cond_dec (fun hne => LD_iiss (hb1.ext hE4) ?_) (fun h0 => hnext hE4 (by
      have h1 : near p m = 0 := by omega
      simp [edF, h1]))
    refine call (elNear_ok (h.ext hE4) hg) ?_
    rintro _ w5 ⟨rfl, hE5⟩
    have hE35 := hE4.trans hE5
    refine cond_eq (fun heq => ?_) (fun hneq => hnext hE35 (by
      have h1 : near p (near p m) ≠ m := fun h => hneq (by rw [h])
      simp [edF, h1]))
    have hF : edF p m = true := by
      have h1 : near p (near p m) = m := by have : ((near p (near p m) : Nat) : Int) = m := heq; omega
      have h2 : near p m ≠ 0 := by omega
      simp [edF, h1, h2, hm1]
    have hb64 : ∀ x ∈ edG p m, I64 x := fun x hx => by
      have := near_lt hg m
      unfold edG at hx
      rcases List.mem_cons.1 hx with rfl | hx
      · unfold I64; omega
      · rw [List.mem_singleton.1 hx]; unfold I64; omega
    refine RUN_lits slt_int (edG p m) (by simp [edG]) (by simp [edG]) rfl rfl fun x w6 hE6 hO6 => ?_
    have hz5 := hE35.size_le
    refine RUN_lit1 (α := Sl) slt_rows x rfl (by decide) fun y w7 hE7 hO7 => ?_
    have hE37 := (hE35.trans hE6).trans hE7
    have hR7 := hR.ext hE37
    have hz7 := hE37.size_le
    refine RUN_append_rowD slt_rows (by decide) hR7 (by omega) ((hO6.ext hE7).low (by omega)) ((hR.ext hE35).fresh (hO6.ext hE7) (Nat.le_refl _)) hO7 (by omega) (by unfold maxLen; omega) fun s' w8 hR8 hs8 => ?_
    rw [wrap_of (by omega) (by omega)]
    refine ⟨⟨m + 1, by omega, by omega, hlt', hs8.ext0 (hE3.trans hE37) fun k hk => (hR7.own.blk k hk).1, ss ++ [x], ?_⟩, by simp only []; omega⟩
    rw [List.range_succ, List.filter_append, List.map_append]
    simpa [hF] using hR8
  · have : m = 2 ^ p.labels.toNat := by omega
    subst this
    rw [← edgeFull_eq] at hR
    have hel := edge_len hg
    refine LD_iiss hb1 ?_
    refine call (elMade_ok (k := 2) true h hg (hR.rep h64e) (edge_byte hg) edge_two (by omega) (by omega)) ?_
    rintro x y z u a b w4 hst
    rw [made_edge] at hst
    have hlt2 := hb2.lt
    exact StIs.through hst (hE.trans hE3) (hb2.ext hst.1) (by omega) (by omega) fun w' h => h

def edGood (p : Prob) : Prop := PGood p ∧ edFew p

theorem EdgeStep_ok {w : World} {c d : Sl} {p : Prob} (h : RProb w c d p) (hs : SmallP p) :
    Calls Tryz.prog F.i_EdgeStep #[.agg #[.int .i64 p.labels, .int .i64 p.degree, c.v, d.v]] w (Ret [.agg [.int .i64, .int .i64, .sl, .sl], .at .sl, .at .bool] (StIs w (edgeP p) (edGood p) (edgeSets p))) := by
  refine C_i_EdgeStep ?_
  unfold V_i_EdgeStep
  refine NEW_intro fun pp w1 hp1 hs1 hE1 hb1 => NEW_intro fun px w2 hp2 hs2 hE2 hb2 => ?_
  have hE := hE1.trans hE2
  have hz1 := hE1.size_le
  replace h := h.ext hE
  replace hb1 := hb1.ext hE2
  refine LD_iiss hb1 ?_
  refine call (IsProblem_ok h) ?_
  rintro x w3 ⟨hx, hE3⟩
  replace hE := hE.ext hE3
  replace h := h.ext hE3
  replace hb1 := hb1.ext hE3
  replace hb2 := hb2.ext hE3
  refine cond_not (fun hf => ?_) (fun ht => LD_iiss hb1 ?_)
  · exact zero_problem hE hb2 (by omega) fun w' hE' => ⟨hE', .inr ⟨rfl, fun hA => by rw [hx.2 hA.1] at hf; cases hf⟩⟩
  · have hg := hx.1 ht
    refine call (edgeStep_ok h hs hg) ?_
    rintro x y z u a b w4 hst
    have hlt2 := hb2.lt
    have hst' : StIs w3 (edgeP p) (edGood p) (edgeSets p) x y z u a b w4 := ⟨hst.1, by
      rcases hst.2 with ⟨r1, r2, r3⟩ | ⟨r1, r2⟩
      · exact .inl ⟨r1, ⟨hg, r2⟩, r3⟩
      · exact .inr ⟨r1, fun hA => r2 hA.2⟩⟩
    exact StIs.through hst' hE (hb2.ext hst.1) (by omega) hlt2 fun w' h => h


theorem sEdgeStep_ok {w : World} {c d : Sl} {p : Prob} (h : RProb w c d p)  :
    Calls Tryz.prog F.s_EdgeStep #[.agg #[.int .i64 p.labels, .int .i64 p.degree, c.v, d.v]] w (Ret [.agg [.int .i64, .int .i64, .sl, .sl], .at .sl, .at .bool] (StIs w (edgeP p) (edGood p) (edgeSets p))) := by
  refine C_s_EdgeStep ?_
  unfold V_s_EdgeStep
  refine NEW_intro fun pp w1 hp1 hs1 hE1 hb1 => NEW_intro fun px w2 hp2 hs2 hE2 hb2 => ?_
  have hE := hE1.trans hE2
  have hz1 := hE1.size_le
  replace h := h.ext hE
  replace hb1 := hb1.ext hE2
  refine LD_iiss hb1 ?_
  refine call (prGood_ok h) ?_
  rintro x w3 ⟨hx, hE3⟩
  replace hE := hE.ext hE3
  replace h := h.ext hE3
  replace hb1 := hb1.ext hE3
  replace hb2 := hb2.ext hE3
  refine cond_not (fun hf => ?_) (fun ht => LD_iiss hb1 ?_)
  · exact zero_problem hE hb2 (by omega) fun w' hE' => ⟨hE', .inr ⟨rfl, fun hA => by rw [hx.2 hA.1] at hf; cases hf⟩⟩
  · have hg := hx.1 ht
    refine call (elEdge_ok h hg) ?_
    rintro x y z u a b w4 hst
    have hlt2 := hb2.lt
    have hst' : StIs w3 (edgeP p) (edGood p) (edgeSets p) x y z u a b w4 := ⟨hst.1, by
      rcases hst.2 with ⟨r1, r2, r3⟩ | ⟨r1, r2⟩
      · exact .inl ⟨r1, ⟨hg, r2⟩, r3⟩
      · exact .inr ⟨r1, fun hA => r2 hA.2⟩⟩
    exact StIs.through hst' hE (hb2.ext hst.1) (by omega) hlt2 fun w' h => h


end Go.Proofs.YtlmiookpmneicaaGreat
end

section
/- slices.SortStableFunc at []int, for lists of numbers: the pieces of its code (swaps, rotations, insertion, merging) and what they bring about. -/
namespace Go.Proofs.YtlmiookpmneicaaGreat
open Go.GX Go.RowKit
set_option maxRecDepth 100000

/-! ### Places and swaps -/

def gt (l : List Int) (i : Nat) : Int := l.getD i 0
theorem gt_get {l : List Int} {i : Nat} (h : i < l.length) : gt l i = l[i] := by simp [gt, h]
def swp (l : List Int) (p q : Nat) : List Int := (l.set q (gt l p)).set p (gt l q)

theorem swp_len (l : List Int) (p q : Nat) : (swp l p q).length = l.length := by simp [swp]
theorem gt_set (l : List Int) (p : Nat) (x : Int) (k : Nat) (hp : p < l.length) : gt (l.set p x) k = if k = p then x else gt l k := by
  unfold gt
  simp only [List.getD_eq_getElem?_getD]
  by_cases h : k = p
  · subst h; simp [hp]
  · rw [List.getElem?_set_ne (Ne.symm h), if_neg h]
theorem swp_get {l : List Int} {p q : Nat} (hp : p < l.length) (hq : q < l.length) (k : Nat) : gt (swp l p q) k = if k = p then gt l q else if k = q then gt l p else gt l k := by
  unfold swp
  rw [gt_set _ _ _ _ (by simpa using hp), gt_set _ _ _ _ hq]
theorem swp_perm {l : List Int} {p q : Nat} (hp : p < l.length) (hq : q < l.length) : (swp l p q).Perm l := by
  have := List.set_set_perm hq hp
  unfold swp
  rw [gt_get hp, gt_get hq]
  exact this

/-- The list that is being sorted: in memory, changed in its own block alone, a permutation of the first one. -/
structure Sd (w0 : World) (base : Nat) (s : Sl) (l0 : List Int) (w : World) (l : List Int) : Prop where
  own : OwnL w base T.t_int s l
  chg : Chg w0 w (oB s)
  perm : l.Perm l0

/-- The comparison: negative where the first key is less; it changes nothing. -/
def Cmp (w0 : World) (s : Sl) (cmp : Value) (key : Int → Int) (l0 : List Int) : Prop :=
  ∀ x ∈ l0, ∀ y ∈ l0, ∀ w', Chg w0 w' (oB s) → CALLV Tryz.prog cmp #[.int .i64 x, .int .i64 y] w' (Ret [.at (.int .i64)] fun (r : Int) w'' => (r < 0 ↔ key x < key y) ∧ Ext w' w'')

section
variable {w0 w w' : World} {base : Nat} {s : Sl} {l0 l : List Int} {cmp : Value} {key : Int → Int}

theorem Sd.ext (h : Sd w0 base s l0 w l) (hE : Ext w w') : Sd w0 base s l0 w' l := ⟨h.own.ext hE, h.chg.trans (.of_ext hE), h.perm⟩
theorem Sd.len (h : Sd w0 base s l0 w l) : l.length = l0.length := h.perm.length_eq
theorem Sd.mem (h : Sd w0 base s l0 w l) {i : Nat} (hi : i < l0.length) : gt l i ∈ l0 := by
  have hi' : i < l.length := by rw [h.len]; exact hi
  rw [gt_get hi']
  exact h.perm.mem_iff.1 (List.getElem_mem hi')
theorem Sd.rep (h : Sd w0 base s l0 w l) (hI : ∀ x ∈ l0, I64 x) : R w s l := (h.own.rep fun x hx => hI x (h.perm.mem_iff.1 hx)).any
theorem Sd.ix (h : Sd w0 base s l0 w l) (hI : ∀ x ∈ l0, I64 x) {i : Nat} (hi : i < l0.length) {K : Addr → Prop} (hk : ∀ p, w.cell? p = some (.int .i64 (gt l i)) → K p) : IX s i 1 K := by
  have hi' : i < l.length := by rw [h.len]; exact hi
  refine (h.rep hI).ixI hi' fun p _ hc => hk p ?_
  rw [gt_get hi']; exact hc

theorem Sd.swap (h : Sd w0 base s l0 w l) (hI : ∀ x ∈ l0, I64 x) {p q : Nat} (hp : p < l0.length) (hq : q < l0.length) {K : World → Prop} (hk : ∀ w', Sd w0 base s l0 w' (swp l p q) → K w') :
    ∃ D : Nat → Prop, IX s p 1 fun a1 => IX s q 1 fun a2 => ¬ D a1.block ∧ (LD [.int .i64] a1 w fun x => LD [.int .i64] a2 w fun y => Chg w w D ∧ (IX s q 1 fun a3 => GX.ST a3 0 [.int .i64 x] w fun w9 => IX s p 1 fun a4 => GX.ST a4 0 [.int .i64 y] w9 K)) := by
  have hp' : p < l.length := by rw [h.len]; exact hp
  have hq' : q < l.length := by rw [h.len]; exact hq
  refine ⟨fun _ => False, h.ix hI hp fun a1 hc1 => h.ix hI hq fun a2 hc2 => ⟨not_false, LD_int hc1 (LD_int hc2 ⟨Chg.refl _ _, ?_⟩)⟩⟩
  refine IX_own h.own hq' rfl fun p1 hp1 => ST_own h.own hq' hp1 (gt l p) rfl fun w1 hO1 hs1 => ?_
  refine IX_own hO1 (by simpa using hp') rfl fun p2 hp2 => ST_own hO1 (by simpa using hp') hp2 (gt l q) rfl fun w2 hO2 hs2 => ?_
  exact hk w2 ⟨hO2, h.chg.trans ((Chg.of_step hs1 fun k hk => hk).trans (.of_step hs2 fun k hk => hk)), (swp_perm hp' hq').trans h.perm⟩

/-! ### Ranges swapped and rotated -/

/-- Where a place's content comes from when two ranges of n places change places. -/
def tau (a b n k : Nat) : Nat := if a ≤ k ∧ k < a + n then k + (b - a) else if b ≤ k ∧ k < b + n then k - (b - a) else k

theorem swapRange_ok (h : Sd w0 base s l0 w l) (hI : ∀ x ∈ l0, I64 x) (hl : l0.length ≤ 1000) {a b n : Nat} (hab : a + n ≤ b) (hb : b + n ≤ l0.length) :
    Calls Tryz.prog F.slices_swapRangeCmpFunc_int #[s.v, .int .i64 a, .int .i64 b, .int .i64 n, cmp] w (Ret [] fun w' => ∃ l', Sd w0 base s l0 w' l' ∧ ∀ k, gt l' k = gt l (tau a b n k)) := by
  refine C_slices_swapRangeCmpFunc_int ?_
  unfold V_slices_swapRangeCmpFunc_int
  refine ⟨IN n fun i w' => ∃ l', Sd w0 base s l0 w' l' ∧ ∀ k, gt l' k = gt l (tau a b i k), MN n, IN_zero ⟨l, h, fun k => by unfold tau; rw [if_neg (by omega), if_neg (by omega)]⟩, ?_⟩
  rintro _ w1 ⟨i, rfl, hi, l1, h1, hg⟩
  intros
  refine cond_dec (fun hlt => ?_) (fun hge => ?_)
  · have hi' : i < n := by omega
    intro w2 hE2 _
    have h2 := h1.ext hE2
    rw [wrap_of (n := (b : Int) + i) (by omega) (by omega), wrap_of (n := (a : Int) + i) (by omega) (by omega)]
    have e1 : ((b : Int) + i) = ((b + i : Nat) : Int) := by omega
    have e2 : ((a : Int) + i) = ((a + i : Nat) : Int) := by omega
    rw [e1, e2]
    refine h2.swap hI (by omega) (by omega) fun w4 h4 => IN_next (by omega) hi' ⟨_, h4, fun k => ?_⟩
    have hll := h2.len
    rw [swp_get (by omega) (by omega), hg, hg, hg]
    have key : (if k = b + i then tau a b i (a + i) else if k = a + i then tau a b i (b + i) else tau a b i k) = tau a b (i + 1) k := by
      unfold tau
      repeat' split
      all_goals omega
    rw [← key]
    split
    · rfl
    · split <;> rfl
  · have : i = n := by omega
    subst this
    exact ⟨l1, h1, hg⟩

/-- Where a place's content comes from when the ranges [a, m) and [m, b) change places. -/
def sig (a m b k : Nat) : Nat := if a ≤ k ∧ k < a + (b - m) then k + (m - a) else if a + (b - m) ≤ k ∧ k < b then k - (b - m) else k

theorem rotate_ok (h : Sd w0 base s l0 w l) (hI : ∀ x ∈ l0, I64 x) (hl : l0.length ≤ 1000) {a m b : Nat} (ham : a < m) (hmb : m < b) (hb : b ≤ l0.length) :
    Calls Tryz.prog F.slices_rotateCmpFunc_int #[s.v, .int .i64 a, .int .i64 m, .int .i64 b, cmp] w (Ret [] fun w' => ∃ l', Sd w0 base s l0 w' l' ∧ ∀ k, gt l' k = gt l (sig a m b k)) := by
  refine C_slices_rotateCmpFunc_int ?_
  unfold V_slices_rotateCmpFunc_int
  rw [wrap_of (n := (m : Int) - a) (by omega) (by omega), wrap_of (n := (b : Int) - m) (by omega) (by omega)]
  refine ⟨fun x y w' => ∃ i j : Nat, x = i ∧ y = j ∧ 0 < i ∧ 0 < j ∧ i ≤ m ∧ m + j ≤ l0.length ∧ ∃ l', Sd w0 base s l0 w' l' ∧ ∀ k, gt l (sig a m b k) = gt l' (sig (m - i) m (m + j) k), fun x y _ => x.toNat + y.toNat,
    ⟨m - a, b - m, by omega, by omega, by omega, by omega, by omega, by omega, l, h, fun k => by rw [show m - (m - a) = a by omega, show m + (b - m) = b by omega]⟩, ?_⟩
  rintro _ _ w1 ⟨i, j, rfl, rfl, hi0, hj0, him, hjl, l1, h1, hg⟩
  intros
  have e1 : IntKind.i64.wrap ((m : Int) - i) = ((m - i : Nat) : Int) := by rw [wrap_of (by omega) (by omega)]; omega
  rw [e1]
  refine cond_ne (fun hne => ?_) (fun heq => ?_)
  · refine cond_dec (fun hgt => ?_) (fun hle => ?_)
    · refine call (swapRange_ok h1 hI hl (a := m - i) (b := m) (n := j) (by omega) (by omega)) ?_
      rintro w2 ⟨l2, h2, hg2⟩
      rw [wrap_of (n := (i : Int) - j) (by omega) (by omega)]
      refine ⟨⟨i - j, j, by omega, rfl, by omega, hj0, by omega, hjl, l2, h2, fun k => ?_⟩, by simp only []; omega⟩
      rw [hg, hg2]
      congr 1
      unfold sig tau
      repeat' split
      all_goals omega
    · have e2 : IntKind.i64.wrap (IntKind.i64.wrap ((m : Int) + j) - i) = ((m + j - i : Nat) : Int) := by rw [wrap_of (n := (m : Int) + j) (by omega) (by omega), wrap_of (by omega) (by omega)]; omega
      rw [e2]
      refine call (swapRange_ok h1 hI hl (a := m - i) (b := m + j - i) (n := i) (by omega) (by omega)) ?_
      rintro w2 ⟨l2, h2, hg2⟩
      rw [wrap_of (n := (j : Int) - i) (by omega) (by omega)]
      refine ⟨⟨i, j - i, rfl, by omega, hi0, by omega, him, by omega, l2, h2, fun k => ?_⟩, by simp only []; omega⟩
      rw [hg, hg2]
      congr 1
      unfold sig tau
      repeat' split
      all_goals omega
  · have : i = j := by omega
    subst this
    refine call (swapRange_ok h1 hI hl (a := m - i) (b := m) (n := i) (by omega) (by omega)) ?_
    rintro w2 ⟨l2, h2, hg2⟩
    refine ⟨l2, h2, fun k => ?_⟩
    rw [hg, hg2]
    congr 1
    unfold sig tau
    repeat' split
    all_goals omega

/-! ### Order -/

def ltK (key : Int → Int) (x y : Int) : Prop := key x < key y ∨ (key x = key y ∧ x < y)
theorem ltK.trans {key : Int → Int} {x y z : Int} (h : ltK key x y) (k : ltK key y z) : ltK key x z := by
  unfold ltK at *; omega
theorem ltK.le {key : Int → Int} {x y : Int} (h : ltK key x y) : key x ≤ key y := by unfold ltK at h; omega

/-- Sorted between two places. -/
def SIn (key : Int → Int) (l : List Int) (a b : Nat) : Prop := ∀ i j, a ≤ i → i < j → j < b → ltK key (gt l i) (gt l j)
/-- What lies between two places lay there before. -/
def SubIn (l l' : List Int) (a b : Nat) : Prop := ∀ i, a ≤ i → i < b → ∃ j, a ≤ j ∧ j < b ∧ gt l' i = gt l j
def SameOut (l l' : List Int) (a b : Nat) : Prop := ∀ i, (i < a ∨ b ≤ i) → gt l' i = gt l i

theorem SubIn.refl (l : List Int) (a b : Nat) : SubIn l l a b := fun i h1 h2 => ⟨i, h1, h2, rfl⟩
theorem SubIn.trans {l l' l'' : List Int} {a b : Nat} (h : SubIn l l' a b) (k : SubIn l' l'' a b) : SubIn l l'' a b := fun i h1 h2 => by
  obtain ⟨j, h3, h4, h5⟩ := k i h1 h2
  obtain ⟨m, h6, h7, h8⟩ := h j h3 h4
  exact ⟨m, h6, h7, h5.trans h8⟩
theorem SubIn.wide {l l' : List Int} {a b a' b' : Nat} (h : SubIn l l' a b) (ho : SameOut l l' a b) (ha : a' ≤ a) (hb : b ≤ b') : SubIn l l' a' b' := fun i h1 h2 => by
  by_cases hi : a ≤ i ∧ i < b
  · obtain ⟨j, h3, h4, h5⟩ := h i hi.1 hi.2
    exact ⟨j, by omega, by omega, h5⟩
  · exact ⟨i, h1, h2, ho i (by omega)⟩
theorem SameOut.wide {l l' : List Int} {a b a' b' : Nat} (h : SameOut l l' a b) (ha : a' ≤ a) (hb : b ≤ b') : SameOut l l' a' b' := fun i hi => h i (by omega)
theorem SameOut.trans {l l' l'' : List Int} {a b : Nat} (h : SameOut l l' a b) (k : SameOut l' l'' a b) : SameOut l l'' a b := fun i hi => (k i hi).trans (h i hi)

/-- While a number sinks to its place: it lies at place j; the others are sorted; those behind it are greater. -/
structure Sink (key : Int → Int) (l l' : List Int) (a i j : Nat) (x : Int) : Prop where
  at_ : gt l' j = x
  sorted : ∀ p q, a ≤ p → p < q → q ≤ i → p ≠ j → q ≠ j → ltK key (gt l' p) (gt l' q)
  behind : ∀ q, j < q → q ≤ i → ltK key x (gt l' q)
  sub : ∀ p, a ≤ p → p ≤ i → p ≠ j → ∃ m, a ≤ m ∧ m < i ∧ gt l' p = gt l m
  out : ∀ p, (p < a ∨ i < p) → gt l' p = gt l p

theorem insertion_ok (h : Sd w0 base s l0 w l) (hI : ∀ x ∈ l0, I64 x) (hl : l0.length ≤ 1000) (hc : Cmp w0 s cmp key l0) {a b : Nat} (hab : a ≤ b) (hb : b ≤ l0.length) (hinc : ∀ i j, a ≤ i → i < j → j < b → gt l i < gt l j) :
    Calls Tryz.prog F.slices_insertionSortCmpFunc_int #[s.v, .int .i64 a, .int .i64 b, cmp] w (Ret [] fun w' => ∃ l', Sd w0 base s l0 w' l' ∧ SIn key l' a b ∧ SubIn l l' a b ∧ SameOut l l' a b) := by
  refine C_slices_insertionSortCmpFunc_int ?_
  unfold V_slices_insertionSortCmpFunc_int
  rw [wrap_of (n := (a : Int) + 1) (by omega) (by omega)]
  refine ⟨fun x w' => ∃ i : Nat, x = i ∧ a + 1 ≤ i ∧ (i ≤ b ∨ i = a + 1) ∧ ∃ l', Sd w0 base s l0 w' l' ∧ SIn key l' a i ∧ (∀ p, a ≤ p → p < i → p < b → ∃ m, a ≤ m ∧ m < i ∧ m < b ∧ gt l' p = gt l m) ∧ SameOut l l' a (min i b), fun x _ => b - x.toNat,
    ⟨a + 1, by omega, by omega, .inr rfl, l, h, fun i j h1 h2 h3 => by omega, fun p h1 h2 h3 => ⟨p, h1, h2, h3, rfl⟩, fun i _ => rfl⟩, ?_⟩
  rintro _ w1 ⟨i, rfl, hi1, hi2, l1, h1, hs1, hu1, ho1⟩
  intros
  refine cond_dec (fun hlt => ?_) (fun hge => ?_)
  rotate_left
  · refine ⟨l1, h1, fun p q k1 k2 k3 => hs1 p q k1 k2 (by omega), fun p k1 k2 => ?_, fun p hp => ho1 p (by omega)⟩
    obtain ⟨m, m1, m2, m3, m4⟩ := hu1 p k1 (by omega) k2
    exact ⟨m, m1, m3, m4⟩
  have hib : i < b := by omega
  have hx : gt l1 i = gt l i := ho1 i (by omega)
  refine ⟨fun y w' => ∃ j : Nat, y = j ∧ a ≤ j ∧ j ≤ i ∧ ∃ l', Sd w0 base s l0 w' l' ∧ Sink key l l' a i j (gt l i), fun y _ => y.toNat,
    ⟨i, rfl, by omega, Nat.le_refl _, l1, h1, ⟨hx, fun p q k1 k2 k3 k4 k5 => hs1 p q k1 k2 (by omega), fun q k1 k2 => by omega, fun p k1 k2 k3 => ?_, fun p hp => ho1 p (by omega)⟩⟩, ?_⟩
  · obtain ⟨m, m1, m2, m3, m4⟩ := hu1 p k1 (by omega) (by omega)
    exact ⟨m, m1, m2, m4⟩
  rintro _ w2 ⟨j, rfl, hja, hji, l2, h2, hk⟩
  intros
  rename_i w3 hE3 _
  have h3 := h2.ext hE3
  have hdone : ∀ w', Ext w3 w' → (j = a ∨ (a < j ∧ ¬ key (gt l i) < key (gt l2 (j - 1)))) → (fun (x : Int) w' => ∃ i : Nat, x = i ∧ a + 1 ≤ i ∧ (i ≤ b ∨ i = a + 1) ∧ ∃ l', Sd w0 base s l0 w' l' ∧ SIn key l' a i ∧ (∀ p, a ≤ p → p < i → p < b → ∃ m, a ≤ m ∧ m < i ∧ m < b ∧ gt l' p = gt l m) ∧ SameOut l l' a (min i b)) (IntKind.i64.wrap ((i : Int) + 1)) w' ∧ b - (IntKind.i64.wrap ((i : Int) + 1)).toNat < b - ((i : Int)).toNat := by
    intro w' hE' hstop
    rw [wrap_of (by omega) (by omega)]
    refine ⟨⟨i + 1, by omega, by omega, .inl (by omega), l2, h3.ext hE', fun p q k1 k2 k3 => ?_, fun p k1 k2 k3 => ?_, fun p hp => hk.out p (by omega)⟩, by omega⟩
    · have hbelow : ∀ p, a ≤ p → p < j → ltK key (gt l2 p) (gt l i) := fun p k1 k2 => by
        rcases hstop with rfl | ⟨hj1, hj2⟩
        · omega
        · obtain ⟨m, m1, m2, m3⟩ := hk.sub (j - 1) (by omega) (by omega) (by omega)
          have hnum := hinc m i m1 m2 hib
          have hlast : ltK key (gt l2 (j - 1)) (gt l i) := by
            unfold ltK
            rw [m3] at hj2 ⊢
            omega
          by_cases hp : p = j - 1
          · subst hp; exact hlast
          · exact (hk.sorted p (j - 1) k1 (by omega) (by omega) (by omega) (by omega)).trans hlast
      by_cases hp : p = j
      · subst hp
        rw [hk.at_]
        exact hk.behind q k2 (by omega)
      · by_cases hq : q = j
        · subst hq
          rw [hk.at_]
          exact hbelow p k1 k2
        · exact hk.sorted p q k1 k2 (by omega) hp hq
    · by_cases hp : p = j
      · subst hp
        exact ⟨i, by omega, by omega, hib, hk.at_⟩
      · obtain ⟨m, m1, m2, m3⟩ := hk.sub p k1 (by omega) hp
        exact ⟨m, m1, by omega, by omega, m3⟩
  refine ⟨Ext.refl _, Ext.refl _, Ext.refl _, cond_dec (fun hgt => ?_) (fun hle => ⟨Ext.refl _, hdone w3 (Ext.refl _) (.inl (by omega))⟩)⟩
  have hja' : a < j := by omega
  have e1 : IntKind.i64.wrap ((j : Int) - 1) = ((j - 1 : Nat) : Int) := by rw [wrap_of (by omega) (by omega)]; omega
  rw [e1]
  refine h3.ix hI (i := j) (by omega) fun p1 hc1 => LD_int hc1 ⟨Ext.refl _, Ext.refl _, h3.ix hI (i := j - 1) (by omega) fun p2 hc2 => ⟨Ext.refl _, LD_int hc2 ⟨Ext.refl _, ?_⟩⟩⟩
  refine callv (hc _ (h3.mem (by omega)) _ (h3.mem (by omega)) w3 h3.chg) ?_
  rintro r w4 ⟨hr, hE4⟩
  have h4 := h3.ext hE4
  rw [hk.at_] at hr
  refine ⟨hE4, Ext.refl _, Ext.refl _, cond_dec (fun hneg => ?_) (fun hnn => hdone w4 hE4 (.inr ⟨hja', fun hh => hnn (hr.2 hh)⟩))⟩
  have hkey := hr.1 hneg
  intro w8 hE8 _
  refine (h4.ext hE8).swap hI (p := j - 1) (q := j) (by omega) (by omega) fun w10 h10 => ⟨⟨j - 1, rfl, by omega, by omega, _, h10, ?_⟩, by simp only []; omega⟩
  have hll := h4.len
  have hsg := fun k => swp_get (l := l2) (p := j - 1) (q := j) (by omega) (by omega) k
  refine ⟨by rw [hsg, if_pos rfl, hk.at_], fun p q k1 k2 k3 k4 k5 => ?_, fun q k1 k2 => ?_, fun p k1 k2 k3 => ?_, fun p hp => ?_⟩
  · rw [hsg, hsg, if_neg k4, if_neg k5]
    by_cases hp : p = j
    · subst hp
      rw [if_pos rfl, if_neg (by omega)]
      exact hk.sorted (p - 1) q (by omega) (by omega) k3 (by omega) (by omega)
    · rw [if_neg hp]
      by_cases hq : q = j
      · subst hq
        rw [if_pos rfl]
        exact hk.sorted p (q - 1) k1 (by omega) (by omega) hp (by omega)
      · rw [if_neg hq]
        exact hk.sorted p q k1 k2 k3 hp hq
  · rw [hsg, if_neg (by omega)]
    by_cases hq : q = j
    · subst hq
      rw [if_pos rfl]
      exact .inl hkey
    · rw [if_neg hq]
      exact hk.behind q (by omega) k2
  · rw [hsg, if_neg k3]
    by_cases hp : p = j
    · subst hp
      rw [if_pos rfl]
      exact hk.sub (p - 1) (by omega) (by omega) (by omega)
    · rw [if_neg hp]
      exact hk.sub p k1 k2 hp
  · rw [hsg, if_neg (by omega), if_neg (by omega)]
    exact hk.out p hp

/-! ### Merging -/

theorem half_nat {a b : Nat} (h : a + b ≤ 100000) : IntKind.i64.wrap (shrI .u64 (IntKind.u64.wrap (IntKind.i64.wrap ((a : Int) + (b : Int)))) 1) = (((a + b) / 2 : Nat) : Int) := by
  rw [wrap_of (n := (a : Int) + b) (by omega) (by omega), wrap_u64 (by omega) (by omega)]
  have e : ((a : Int) + (b : Int)) = ((a + b : Nat) : Int) := by omega
  have e1 : (1 : Int) = ((1 : Nat) : Int) := rfl
  rw [e, e1, shr_nat .u64 (a + b) 1 (by decide)]
  have : (a + b) / 2 ^ 1 = (a + b) / 2 := rfl
  rw [this, wrap_of (by omega) (by omega)]

theorem sig_id {a m b k : Nat} (h : a = m ∨ m = b) (ham : a ≤ m) (hmb : m ≤ b) : sig a m b k = k := by
  unfold sig
  repeat' split
  all_goals omega

/-- What is known when the place of the cut is found. -/
structure Cut (key : Int → Int) (l : List Int) (a m b c e : Nat) : Prop where
  ac : a ≤ c
  cm : c ≤ m
  me : m ≤ e
  eb : e ≤ b
  low : ∀ p q, a ≤ p → p < c → e ≤ q → q < b → ltK key (gt l p) (gt l q)
  high : ∀ p q, m ≤ p → p < e → c ≤ q → q < m → key (gt l p) < key (gt l q)

/-- What the rotation leaves: two pairs of sorted ranges, and all of the first pair before all of the second. -/
structure Mid (key : Int → Int) (l l1 : List Int) (a b c e d : Nat) : Prop where
  s11 : SIn key l1 a c
  s12 : SIn key l1 c d
  s21 : SIn key l1 d e
  s22 : SIn key l1 e b
  n1 : ∀ i j, a ≤ i → i < c → c ≤ j → j < d → gt l1 i < gt l1 j
  n2 : ∀ i j, d ≤ i → i < e → e ≤ j → j < b → gt l1 i < gt l1 j
  cross : ∀ p q, a ≤ p → p < d → d ≤ q → q < b → ltK key (gt l1 p) (gt l1 q)
  sub : SubIn l l1 a b
  out : SameOut l l1 a b

theorem mid_of {a m b c e d : Nat} {l1 : List Int} (hs1 : SIn key l a m) (hs2 : SIn key l m b) (hnum : ∀ i j, a ≤ i → i < m → m ≤ j → j < b → gt l i < gt l j) (hC : Cut key l a m b c e) (hd : c + e = d + m) (hg : ∀ k, gt l1 k = gt l (sig c m e k)) : Mid key l l1 a b c e d := by
  obtain ⟨h1, h2, h3, h4, hlow, hhigh⟩ := hC
  have f1 : ∀ k, k < c → gt l1 k = gt l k := fun k hk => by rw [hg]; unfold sig; rw [if_neg (by omega), if_neg (by omega)]
  have f2 : ∀ k, c ≤ k → k < d → gt l1 k = gt l (k + (m - c)) := fun k hk hk2 => by rw [hg]; unfold sig; rw [if_pos (by omega)]
  have f3 : ∀ k, d ≤ k → k < e → gt l1 k = gt l (k - (e - m)) := fun k hk hk2 => by rw [hg]; unfold sig; rw [if_neg (by omega), if_pos (by omega)]
  have f4 : ∀ k, e ≤ k → gt l1 k = gt l k := fun k hk => by rw [hg]; unfold sig; rw [if_neg (by omega), if_neg (by omega)]
  refine ⟨fun p q k1 k2 k3 => ?_, fun p q k1 k2 k3 => ?_, fun p q k1 k2 k3 => ?_, fun p q k1 k2 k3 => ?_, fun p q k1 k2 k3 k4 => ?_, fun p q k1 k2 k3 k4 => ?_, fun p q k1 k2 k3 k4 => ?_, fun p k1 k2 => ?_, fun p hp => ?_⟩
  · rw [f1 p (by omega), f1 q k3]; exact hs1 p q k1 k2 (by omega)
  · rw [f2 p k1 (by omega), f2 q (by omega) k3]; exact hs2 _ _ (by omega) (by omega) (by omega)
  · rw [f3 p k1 (by omega), f3 q (by omega) k3]; exact hs1 _ _ (by omega) (by omega) (by omega)
  · rw [f4 p k1, f4 q (by omega)]; exact hs2 _ _ (by omega) k2 k3
  · rw [f1 p k2, f2 q k3 k4]; exact hnum _ _ k1 (by omega) (by omega) (by omega)
  · rw [f3 p k1 k2, f4 q k3]; exact hnum _ _ (by omega) (by omega) (by omega) k4
  · by_cases c1 : p < c
    · rw [f1 p c1]
      by_cases c2 : q < e
      · rw [f3 q k3 c2]; exact hs1 _ _ k1 (by omega) (by omega)
      · rw [f4 q (by omega)]; exact hlow p q k1 c1 (by omega) k4
    · rw [f2 p (by omega) k2]
      by_cases c2 : q < e
      · rw [f3 q k3 c2]; exact .inl (hhigh _ _ (by omega) (by omega) (by omega) (by omega))
      · rw [f4 q (by omega)]; exact hs2 _ _ (by omega) (by omega) k4
  · rw [hg]
    refine ⟨_, ?_, ?_, rfl⟩
    · unfold sig; (repeat' split) <;> omega
    · unfold sig; (repeat' split) <;> omega
  · rw [hg]
    congr 1
    unfold sig
    (repeat' split) <;> omega

theorem symMerge_ok (hI : ∀ x ∈ l0, I64 x) (hl : l0.length ≤ 1000) (hc : Cmp w0 s cmp key l0) : ∀ (d : Nat) {w : World} {l : List Int} (_ : Sd w0 base s l0 w l) {a m b : Nat}, b - a ≤ d → a < m → m < b → b ≤ l0.length → SIn key l a m → SIn key l m b → (∀ i j, a ≤ i → i < m → m ≤ j → j < b → gt l i < gt l j) →
    Calls Tryz.prog F.slices_symMergeCmpFunc_int #[s.v, .int .i64 a, .int .i64 m, .int .i64 b, cmp] w (Ret [] fun w' => ∃ l', Sd w0 base s l0 w' l' ∧ SIn key l' a b ∧ SubIn l l' a b ∧ SameOut l l' a b)
  | 0, w, l, _, a, m, b, hd, ham, hmb, _, _, _, _ => by omega
  | d + 1, w, l, h, a, m, b, hd, ham, hmb, hb, hs1, hs2, hnum => by
    refine C_slices_symMergeCmpFunc_int ?_
    unfold V_slices_symMergeCmpFunc_int
    rw [wrap_of (n := (m : Int) - a) (by omega) (by omega), wrap_of (n := (b : Int) - m) (by omega) (by omega)]
    have hlen := h.len
    refine cond_eq (fun hone => ?_) (fun hnone => cond_eq (fun hone => ?_) (fun hnone2 => ?_))
    · -- one number on the left
      have hma : m = a + 1 := by omega
      subst hma
      refine ⟨fun x y w' => ∃ i j : Nat, x = i ∧ y = j ∧ a + 1 ≤ i ∧ i ≤ j ∧ j ≤ b ∧ Sd w0 base s l0 w' l ∧ (∀ p, a + 1 ≤ p → p < i → key (gt l p) < key (gt l a)) ∧ (∀ p, j ≤ p → p < b → ¬ key (gt l p) < key (gt l a)), fun x y _ => y.toNat - x.toNat,
        ⟨a + 1, b, by omega, rfl, by omega, by omega, by omega, h, fun p h1 h2 => by omega, fun p h1 h2 => by omega⟩, ?_⟩
      rintro _ _ w1 ⟨i, j, rfl, rfl, hi, hij, hjb, h1, hlo, hhi⟩
      intros
      refine cond_dec (fun hlt => ⟨by omega, ?_⟩) (fun hge => ?_)
      · intro w2 hE2 _
        have h2 := h1.ext hE2
        rw [half_nat (by omega)]
        have hh1 : i ≤ (i + j) / 2 := by omega
        have hh2 : (i + j) / 2 < j := by omega
        generalize (i + j) / 2 = hf at *
        refine h2.ix hI (i := hf) (by omega) fun p1 hc1 => LD_int hc1 ⟨Ext.refl _, h2.ix hI (i := a) (by omega) fun p2 hc2 => ⟨Ext.refl _, LD_int hc2 ⟨Ext.refl _, ?_⟩⟩⟩
        refine callv (hc _ (h2.mem (by omega)) _ (h2.mem (by omega)) w2 h2.chg) ?_
        rintro r w3 ⟨hr, hE3⟩
        refine ⟨hE3, hE3, cond_dec (fun hneg => ?_) (fun hnn => ?_)⟩
        · rw [wrap_of (by omega) (by omega)]
          refine ⟨⟨hf + 1, j, by omega, rfl, by omega, by omega, hjb, h2.ext hE3, fun p k1 k2 => ?_, hhi⟩, by simp only []; omega⟩
          have hk := hr.1 hneg
          by_cases hp : p = hf
          · subst hp; exact hk
          · have := (hs2 p hf k1 (by omega) (by omega)).le
            omega
        · refine ⟨⟨i, hf, rfl, rfl, hi, hh1, by omega, h2.ext hE3, hlo, fun p k1 k2 => ?_⟩, by simp only []; omega⟩
          have hk : ¬ key (gt l hf) < key (gt l a) := fun hh => hnn (hr.2 hh)
          by_cases hp : p = hf
          · subst hp; exact hk
          · have := (hs2 hf p (by omega) (by omega) k2).le
            omega
      · have : i = j := by omega
        subst this
        rw [wrap_of (n := (i : Int) - 1) (by omega) (by omega)]
        refine ⟨fun x w' => ∃ k : Nat, x = k ∧ a ≤ k ∧ k ≤ i - 1 ∧ ∃ l', Sd w0 base s l0 w' l' ∧ ∀ p, gt l' p = gt l (if a ≤ p ∧ p < k then p + 1 else if p = k then a else p), fun x _ => i - x.toNat,
          ⟨a, rfl, by omega, by omega, l, h1, fun p => by congr 1; (repeat' split) <;> omega⟩, ?_⟩
        rintro _ w4 ⟨k, rfl, hk1, hk2, l4, h4, hg4⟩
        intros
        refine cond_dec (fun hlt2 => ?_) (fun hge2 => ?_)
        · intro w5 hE5 _
          rw [wrap_of (n := (k : Int) + 1) (by omega) (by omega)]
          have e1 : ((k : Int) + 1) = ((k + 1 : Nat) : Int) := by omega
          rw [e1]
          refine (h4.ext hE5).swap hI (p := k + 1) (q := k) (by omega) (by omega) fun w7 h7 => ⟨⟨k + 1, rfl, by omega, by omega, _, h7, fun p => ?_⟩, by simp only []; omega⟩
          have hl4 := h4.len
          rw [swp_get (by omega) (by omega), hg4, hg4, hg4, ← apply_ite (gt l), ← apply_ite (gt l)]
          congr 1
          repeat' split
          all_goals omega
        · have : k = i - 1 := by omega
          subst this
          refine ⟨l4, h4, fun p q k1 k2 k3 => ?_, fun p k1 k2 => ?_, fun p hp => ?_⟩
          · rw [hg4, hg4]
            by_cases c1 : q < i - 1
            · rw [if_pos ⟨k1, by omega⟩, if_pos ⟨by omega, c1⟩]
              exact hs2 _ _ (by omega) (by omega) (by omega)
            · rw [if_neg (show ¬ (a ≤ q ∧ q < i - 1) by omega)]
              by_cases c2 : q = i - 1
              · rw [if_pos c2, if_pos ⟨k1, by omega⟩]
                exact .inl (hlo _ (by omega) (by omega))
              · rw [if_neg c2]
                by_cases c3 : p < i - 1
                · rw [if_pos ⟨k1, c3⟩]
                  exact hs2 _ _ (by omega) (by omega) k3
                · rw [if_neg (show ¬ (a ≤ p ∧ p < i - 1) by omega)]
                  by_cases c4 : p = i - 1
                  · rw [if_pos c4]
                    have := hhi q (by omega) k3
                    have := hnum a q (by omega) (by omega) (by omega) k3
                    unfold ltK; omega
                  · rw [if_neg c4]
                    exact hs2 _ _ (by omega) k2 k3
          · rw [hg4]
            exact ⟨_, by (repeat' split) <;> omega, by (repeat' split) <;> omega, rfl⟩
          · rw [hg4]
            congr 1
            repeat' split
            all_goals omega
    · -- one number on the right
      have hbm : b = m + 1 := by omega
      subst hbm
      refine ⟨fun x y w' => ∃ i j : Nat, x = i ∧ y = j ∧ a ≤ i ∧ i ≤ j ∧ j ≤ m ∧ Sd w0 base s l0 w' l ∧ (∀ p, a ≤ p → p < i → ¬ key (gt l m) < key (gt l p)) ∧ (∀ p, j ≤ p → p < m → key (gt l m) < key (gt l p)), fun x y _ => y.toNat - x.toNat,
        ⟨a, m, by omega, rfl, by omega, by omega, by omega, h, fun p h1 h2 => by omega, fun p h1 h2 => by omega⟩, ?_⟩
      rintro _ _ w1 ⟨i, j, rfl, rfl, hi, hij, hjb, h1, hlo, hhi⟩
      intros
      refine cond_dec (fun hlt => ⟨by omega, ?_⟩) (fun hge => ?_)
      · intro w2 hE2 _
        have h2 := h1.ext hE2
        rw [half_nat (by omega)]
        have hh1 : i ≤ (i + j) / 2 := by omega
        have hh2 : (i + j) / 2 < j := by omega
        generalize (i + j) / 2 = hf at *
        refine h2.ix hI (i := m) (by omega) fun p1 hc1 => LD_int hc1 ⟨Ext.refl _, h2.ix hI (i := hf) (by omega) fun p2 hc2 => ⟨Ext.refl _, LD_int hc2 ⟨Ext.refl _, ?_⟩⟩⟩
        refine callv (hc _ (h2.mem (by omega)) _ (h2.mem (by omega)) w2 h2.chg) ?_
        rintro r w3 ⟨hr, hE3⟩
        refine ⟨hE3, hE3, hE3, ?_⟩
        refine cond_not (fun hnn => ?_) (fun hneg => ?_)
        · have hk : ¬ key (gt l m) < key (gt l hf) := fun hh => by have := hr.2 hh; simp at hnn; omega
          rw [wrap_of (by omega) (by omega)]
          refine ⟨⟨hf + 1, j, by omega, rfl, by omega, by omega, hjb, h2.ext hE3, fun p k1 k2 => ?_, hhi⟩, by simp only []; omega⟩
          by_cases hp : p = hf
          · subst hp; exact hk
          · have := (hs1 p hf k1 (by omega) (by omega)).le
            omega
        · have hk := hr.1 (by simpa using hneg)
          refine ⟨⟨i, hf, rfl, rfl, hi, hh1, by omega, h2.ext hE3, hlo, fun p k1 k2 => ?_⟩, by simp only []; omega⟩
          by_cases hp : p = hf
          · subst hp; exact hk
          · have := (hs1 hf p (by omega) (by omega) k2).le
            omega
      · have : i = j := by omega
        subst this
        refine ⟨fun x w' => ∃ k : Nat, x = k ∧ i ≤ k ∧ k ≤ m ∧ ∃ l', Sd w0 base s l0 w' l' ∧ ∀ p, gt l' p = gt l (if k < p ∧ p ≤ m then p - 1 else if p = k then m else p), fun x _ => x.toNat,
          ⟨m, rfl, by omega, by omega, l, h1, fun p => by congr 1; (repeat' split) <;> omega⟩, ?_⟩
        rintro _ w4 ⟨k, rfl, hk1, hk2, l4, h4, hg4⟩
        intros
        refine cond_dec (fun hlt2 => ?_) (fun hge2 => ?_)
        · intro w5 hE5 _
          have e1 : IntKind.i64.wrap ((k : Int) - 1) = ((k - 1 : Nat) : Int) := by rw [wrap_of (by omega) (by omega)]; omega
          rw [e1]
          refine (h4.ext hE5).swap hI (p := k - 1) (q := k) (by omega) (by omega) fun w7 h7 => ⟨⟨k - 1, rfl, by omega, by omega, _, h7, fun p => ?_⟩, by simp only []; omega⟩
          have hl4 := h4.len
          rw [swp_get (by omega) (by omega), hg4, hg4, hg4, ← apply_ite (gt l), ← apply_ite (gt l)]
          congr 1
          repeat' split
          all_goals omega
        · have : k = i := by omega
          subst this
          refine ⟨l4, h4, fun p q k1 k2 k3 => ?_, fun p k1 k2 => ?_, fun p hp => ?_⟩
          · rw [hg4, hg4]
            by_cases c1 : p < k
            · rw [if_neg (show ¬ (k < p ∧ p ≤ m) by omega), if_neg (show ¬ p = k by omega)]
              by_cases c2 : q < k
              · rw [if_neg (show ¬ (k < q ∧ q ≤ m) by omega), if_neg (show ¬ q = k by omega)]
                exact hs1 _ _ k1 k2 (by omega)
              · by_cases c3 : q = k
                · rw [if_neg (show ¬ (k < q ∧ q ≤ m) by omega), if_pos c3]
                  have := hlo p k1 c1
                  have := hnum p m k1 (by omega) (by omega) (by omega)
                  unfold ltK; omega
                · rw [if_pos (show (k < q ∧ q ≤ m) by omega)]
                  exact hs1 _ _ k1 (by omega) (by omega)
            · by_cases c2 : p = k
              · rw [if_neg (show ¬ (k < p ∧ p ≤ m) by omega), if_pos c2, if_pos (show (k < q ∧ q ≤ m) by omega)]
                exact .inl (hhi _ (by omega) (by omega))
              · rw [if_pos (show (k < p ∧ p ≤ m) by omega), if_pos (show (k < q ∧ q ≤ m) by omega)]
                exact hs1 _ _ (by omega) (by omega) (by omega)
          · rw [hg4]
            exact ⟨_, by (repeat' split) <;> omega, by (repeat' split) <;> omega, rfl⟩
          · rw [hg4]
            congr 1
            repeat' split
            all_goals omega
    · -- both sides have more
      refine ⟨by omega, ?_⟩
      have hM : ∃ M, M = (a + b) / 2 := ⟨_, rfl⟩
      obtain ⟨M, hMd⟩ := hM
      have hM1 : 2 * M ≤ a + b := by omega
      have hM2 : a + b ≤ 2 * M + 1 := by omega
      have hhalf := half_nat (a := a) (b := b) (by omega)
      rw [← hMd] at hhalf
      -- the second half, the first half, behind the rotation
      have hk18 : ∀ (c e : Nat) (w' : World) (l1 l2 : List Int), c + e = M + m → m ≤ e → e ≤ b → a ≤ c → c ≤ m → Mid key l l1 a b c e M → Sd w0 base s l0 w' l2 → SIn key l2 a M → SubIn l1 l2 a M → SameOut l1 l2 a M → V_slices_symMergeCmpFunc_int_k18 s a m b cmp (fun w' => ∃ l', Sd w0 base s l0 w' l' ∧ SIn key l' a b ∧ SubIn l l' a b ∧ SameOut l l' a b) c w' := by
        intro c e w' l1 l2 hce hme heb hac hcm hMid hS2 hsort2 hsub2 hout2
        have hfin : ∀ (w3 : World) (l3 : List Int), Sd w0 base s l0 w3 l3 → SIn key l3 M b → SubIn l2 l3 M b → SameOut l2 l3 M b → ∃ l', Sd w0 base s l0 w3 l' ∧ SIn key l' a b ∧ SubIn l l' a b ∧ SameOut l l' a b := by
          intro w3 l3 hS3 hsort3 hsub3 hout3
          refine ⟨l3, hS3, fun p q k1 k2 k3 => ?_, (hMid.sub.trans (hsub2.wide hout2 (Nat.le_refl _) (by omega))).trans (hsub3.wide hout3 (by omega) (Nat.le_refl _)), (hMid.out.trans (hout2.wide (Nat.le_refl _) (by omega))).trans (hout3.wide (by omega) (Nat.le_refl _))⟩
          by_cases c1 : q < M
          · rw [hout3 p (by omega), hout3 q (by omega)]; exact hsort2 p q k1 k2 c1
          · by_cases c2 : M ≤ p
            · exact hsort3 p q c2 k2 k3
            · rw [hout3 p (by omega)]
              obtain ⟨p', e1, e2, e3⟩ := hsub2 p k1 (by omega)
              obtain ⟨q', e4, e5, e6⟩ := hsub3 q (by omega) k3
              rw [e3, e6, hout2 q' (by omega)]
              exact hMid.cross p' q' e1 e2 e4 e5
        have g2 : ∀ k, M ≤ k → gt l2 k = gt l1 k := fun k hk => hout2 k (by omega)
        have t21 : SIn key l2 M e := fun p q k1 k2 k3 => by rw [g2 p k1, g2 q (by omega)]; exact hMid.s21 p q k1 k2 k3
        have t22 : SIn key l2 e b := fun p q k1 k2 k3 => by rw [g2 p (by omega), g2 q (by omega)]; exact hMid.s22 p q k1 k2 k3
        have tn : ∀ i j, M ≤ i → i < e → e ≤ j → j < b → gt l2 i < gt l2 j := fun i j k1 k2 k3 k4 => by rw [g2 i k1, g2 j (by omega)]; exact hMid.n2 i j k1 k2 k3 k4
        unfold V_slices_symMergeCmpFunc_int_k18
        rw [hhalf, wrap_of (n := (M : Int) + m) (by omega) (by omega), wrap_of (n := (M : Int) + m - c) (by omega) (by omega)]
        have ee : (M : Int) + m - c = (e : Int) := by omega
        rw [ee]
        refine cond_dec (fun h1 => cond_dec (fun h2 => ?_) (fun h2 => hfin w' l2 hS2 ?_ (SubIn.refl _ _ _) (fun _ _ => rfl))) (fun h1 => hfin w' l2 hS2 ?_ (SubIn.refl _ _ _) (fun _ _ => rfl))
        · refine call (symMerge_ok hI hl hc d hS2 (a := M) (m := e) (b := b) (by omega) (by omega) (by omega) hb t21 t22 tn) ?_
          rintro w3 ⟨l3, h3, h4, h5, h6⟩
          exact hfin w3 l3 h3 h4 h5 h6
        · have : e = b := by omega
          rw [← this]; exact t21
        · have : M = e := by omega
          rw [this]; exact t22
      have hk16 : ∀ (c e : Nat) (w' : World) (l1 : List Int), c + e = M + m → m ≤ e → e ≤ b → a ≤ c → c ≤ m → Mid key l l1 a b c e M → Sd w0 base s l0 w' l1 → V_slices_symMergeCmpFunc_int_k16 s a m b cmp (fun w' => ∃ l', Sd w0 base s l0 w' l' ∧ SIn key l' a b ∧ SubIn l l' a b ∧ SameOut l l' a b) c w' := by
        intro c e w' l1 hce hme heb hac hcm hMid hS1
        unfold V_slices_symMergeCmpFunc_int_k16
        rw [hhalf]
        refine cond_dec (fun h1 => cond_dec (fun h2 => ?_) (fun h2 => hk18 c e w' l1 l1 hce hme heb hac hcm hMid hS1 ?_ (SubIn.refl _ _ _) (fun _ _ => rfl))) (fun h1 => hk18 c e w' l1 l1 hce hme heb hac hcm hMid hS1 ?_ (SubIn.refl _ _ _) (fun _ _ => rfl))
        · refine call (symMerge_ok hI hl hc d hS1 (a := a) (m := c) (b := M) (by omega) (by omega) (by omega) (by omega) hMid.s11 hMid.s12 hMid.n1) ?_
          rintro w2 ⟨l2, h3, h4, h5, h6⟩
          exact hk18 c e w2 l1 l2 hce hme heb hac hcm hMid h3 h4 h5 h6
        · have : c = M := by omega
          rw [← this]; exact hMid.s11
        · have : a = c := by omega
          rw [this]; exact hMid.s12
      have hk13 : ∀ (st r : Nat), a ≤ st → st ≤ r → r ≤ m → r ≤ M → M + m ≤ st + b → (st = a ∨ st + b = M + m) → (r = m ∨ r = M) → V_slices_symMergeCmpFunc_int_k13 s a m b cmp (fun w' => ∃ l', Sd w0 base s l0 w' l' ∧ SIn key l' a b ∧ SubIn l l' a b ∧ SameOut l l' a b) st r w := by
        intro st r h1 h2 h3 h4 h5 h6 h7
        unfold V_slices_symMergeCmpFunc_int_k13
        rw [hhalf, wrap_of (n := (M : Int) + m) (by omega) (by omega), wrap_of (n := (M : Int) + m - 1) (by omega) (by omega)]
        refine ⟨fun x y w' => ∃ c r' : Nat, x = c ∧ y = r' ∧ st ≤ c ∧ c ≤ r' ∧ r' ≤ r ∧ Sd w0 base s l0 w' l ∧ (∀ t, st ≤ t → t < c → ¬ key (gt l (M + m - 1 - t)) < key (gt l t)) ∧ (∀ t, r' ≤ t → t < r → key (gt l (M + m - 1 - t)) < key (gt l t)), fun x y _ => y.toNat - x.toNat,
          ⟨st, r, rfl, rfl, by omega, h2, by omega, h, fun t k1 k2 => by omega, fun t k1 k2 => by omega⟩, ?_⟩
        rintro _ _ w16 ⟨c, r', rfl, rfl, hc1, hc2, hc3, hS, hlo, hhi⟩
        intros
        refine cond_dec (fun hlt => ⟨by omega, ?_⟩) (fun hge => ?_)
        · intro w17 hE17 _
          have hS2 := hS.ext hE17
          rw [half_nat (by omega)]
          have hh1 : c ≤ (c + r') / 2 := by omega
          have hh2 : (c + r') / 2 < r' := by omega
          generalize (c + r') / 2 = hf at *
          rw [wrap_of (n := (M : Int) + m - 1 - hf) (by omega) (by omega)]
          have ei : (M : Int) + m - 1 - hf = ((M + m - 1 - hf : Nat) : Int) := by omega
          rw [ei]
          refine hS2.ix hI (i := M + m - 1 - hf) (by omega) fun p1 hcc1 => LD_int hcc1 ⟨Ext.refl _, hS2.ix hI (i := hf) (by omega) fun p2 hcc2 => ⟨Ext.refl _, LD_int hcc2 ⟨Ext.refl _, ?_⟩⟩⟩
          refine callv (hc _ (hS2.mem (by omega)) _ (hS2.mem (by omega)) w17 hS2.chg) ?_
          rintro v w18 ⟨hr, hE18⟩
          refine ⟨hE18, hE18, hE18, ?_⟩
          refine cond_not (fun hnn => ?_) (fun hneg => ?_)
          · have hk : ¬ key (gt l (M + m - 1 - hf)) < key (gt l hf) := fun hh => by have := hr.2 hh; simp at hnn; omega
            rw [wrap_of (by omega) (by omega)]
            refine ⟨⟨hf + 1, r', by omega, rfl, by omega, by omega, hc3, hS2.ext hE18, fun t k1 k2 => ?_, hhi⟩, by simp only []; omega⟩
            by_cases ht : t = hf
            · subst ht; exact hk
            · have e1 := (hs1 t hf (by omega) (by omega) (by omega)).le
              have e2 := (hs2 (M + m - 1 - hf) (M + m - 1 - t) (by omega) (by omega) (by omega)).le
              omega
          · have hk := hr.1 (by simpa using hneg)
            refine ⟨⟨c, hf, rfl, rfl, hc1, hh1, by omega, hS2.ext hE18, hlo, fun t k1 k2 => ?_⟩, by simp only []; omega⟩
            by_cases ht : t = hf
            · subst ht; exact hk
            · have e1 := (hs1 hf t (by omega) (by omega) (by omega)).le
              have e2 := (hs2 (M + m - 1 - t) (M + m - 1 - hf) (by omega) (by omega) (by omega)).le
              omega
        · have : c = r' := by omega
          subst this
          obtain ⟨e, he⟩ : ∃ e, c + e = M + m := ⟨M + m - c, by omega⟩
          have hC : Cut key l a m b c e := by
            refine ⟨by omega, by omega, by omega, by omega, fun p q k1 k2 k3 k4 => ?_, fun p q k1 k2 k3 k4 => ?_⟩
            · by_cases cs : c = st
              · omega
              · have e1 := hlo (c - 1) (by omega) (by omega)
                rw [show M + m - 1 - (c - 1) = e by omega] at e1
                have hn := hnum p q k1 (by omega) (by omega) k4
                have e2 : key (gt l p) ≤ key (gt l (c - 1)) := by
                  by_cases hp : p = c - 1
                  · rw [hp]; exact Int.le_refl _
                  · exact (hs1 p (c - 1) k1 (by omega) (by omega)).le
                have e3 : key (gt l e) ≤ key (gt l q) := by
                  by_cases hq : q = e
                  · rw [hq]; exact Int.le_refl _
                  · exact (hs2 e q (by omega) (by omega) k4).le
                unfold ltK; omega
            · by_cases cr : c = r
              · omega
              · have e1 := hhi c (by omega) (by omega)
                rw [show M + m - 1 - c = e - 1 by omega] at e1
                have e2 : key (gt l p) ≤ key (gt l (e - 1)) := by
                  by_cases hp : p = e - 1
                  · rw [hp]; exact Int.le_refl _
                  · exact (hs2 p (e - 1) k1 (by omega) (by omega)).le
                have e3 : key (gt l c) ≤ key (gt l q) := by
                  by_cases hq : q = c
                  · rw [hq]; exact Int.le_refl _
                  · exact (hs1 c q (by omega) (by omega) k4).le
                omega
          have b1 := hC.ac
          have b2 := hC.cm
          have b3 := hC.me
          have b4 := hC.eb
          rw [wrap_of (n := (M : Int) + m - c) (by omega) (by omega)]
          have ee : (M : Int) + m - c = (e : Int) := by omega
          rw [ee]
          refine cond_dec (fun j1 => cond_dec (fun j2 => ?_) (fun j2 => ?_)) (fun j1 => ?_)
          · refine call (rotate_ok hS hI hl (a := c) (m := m) (b := e) (by omega) (by omega) (by omega)) ?_
            rintro w19 ⟨l1, hS1, hg1⟩
            exact hk16 c e w19 l1 he b3 b4 b1 b2 (mid_of hs1 hs2 hnum hC he hg1) hS1
          · exact hk16 c e w16 l he b3 b4 b1 b2 (mid_of hs1 hs2 hnum hC he fun k => by rw [sig_id (.inr (by omega)) b2 b3]) hS
          · exact hk16 c e w16 l he b3 b4 b1 b2 (mid_of hs1 hs2 hnum hC he fun k => by rw [sig_id (.inl (by omega)) b2 b3]) hS
      rw [hhalf]
      refine cond_dec (fun hgt => ?_) (fun hle => ?_)
      · rw [wrap_of (n := (M : Int) + m) (by omega) (by omega), wrap_of (n := (M : Int) + m - b) (by omega) (by omega)]
        have e1 : (M : Int) + m - b = ((M + m - b : Nat) : Int) := by omega
        rw [e1]
        exact hk13 (M + m - b) M (by omega) (by omega) (by omega) (by omega) (by omega) (.inr (by omega)) (.inr rfl)
      · exact hk13 a m (by omega) (by omega) (by omega) (by omega) (by omega) (.inl rfl) (.inl rfl)

/-- Behind the first phase: two blocks at most. -/
def Two (key : Int → Int) (l0 l : List Int) : Prop := (l0.length ≤ 20 → SIn key l 0 l0.length) ∧ (20 < l0.length → SIn key l 0 20 ∧ SIn key l 20 l0.length ∧ SubIn l0 l 0 20 ∧ SubIn l0 l 20 l0.length)

theorem stable_ok (h : Sd w0 base s l0 w l0) (hI : ∀ x ∈ l0, I64 x) (hl : l0.length ≤ 40) (hc : Cmp w0 s cmp key l0) (hinc : ∀ i j, i < j → j < l0.length → gt l0 i < gt l0 j) :
    Calls Tryz.prog F.slices_stableCmpFunc_int #[s.v, .int .i64 l0.length, cmp] w (Ret [] fun w' => ∃ l', Sd w0 base s l0 w' l' ∧ SIn key l' 0 l0.length) := by
  refine C_slices_stableCmpFunc_int ?_
  unfold V_slices_stableCmpFunc_int
  refine ⟨fun a b w' => ∃ t : Nat, a = ((20 * t : Nat) : Int) ∧ b = ((20 * t + 20 : Nat) : Int) ∧ 20 * t ≤ l0.length ∧ ∃ l', Sd w0 base s l0 w' l' ∧ (∀ k, k < t → SIn key l' (20 * k) (20 * k + 20) ∧ SubIn l0 l' (20 * k) (20 * k + 20)) ∧ SameOut l0 l' 0 (20 * t), fun a _ _ => 100 - a.toNat,
    ⟨0, rfl, rfl, by omega, l0, h, fun k hk => by omega, fun _ _ => rfl⟩, ?_⟩
  rintro _ _ w1 ⟨t, rfl, rfl, ht, l1, h1, hb1, ho1⟩
  intros
  have hinc1 : ∀ c, c ≤ l0.length → ∀ i j, 20 * t ≤ i → i < j → j < c → gt l1 i < gt l1 j := fun c hc i j k1 k2 k3 => by
    rw [ho1 i (by omega), ho1 j (by omega)]; exact hinc i j k2 (by omega)
  refine cond_dec (fun hle => ?_) (fun hgt => ?_)
  · refine call (insertion_ok h1 hI (by omega) hc (a := 20 * t) (b := 20 * t + 20) (by omega) (by omega) (hinc1 _ (by omega))) ?_
    rintro w2 ⟨l2, h2, hs2, hu2, ho2⟩
    rw [wrap_of (by omega) (by omega)]
    refine ⟨⟨t + 1, by omega, by omega, by omega, l2, h2, fun k hk => ?_, fun p hp => ?_⟩, by simp only []; omega⟩
    · by_cases hkt : k = t
      · subst hkt
        refine ⟨hs2, fun p k1 k2 => ?_⟩
        obtain ⟨q, e1, e2, e3⟩ := hu2 p k1 k2
        exact ⟨q, e1, e2, by rw [e3, ho1 q (by omega)]⟩
      · obtain ⟨e1, e2⟩ := hb1 k (by omega)
        refine ⟨fun p q k1 k2 k3 => ?_, fun p k1 k2 => ?_⟩
        · rw [ho2 p (by omega), ho2 q (by omega)]; exact e1 p q k1 k2 k3
        · rw [ho2 p (by omega)]; exact e2 p k1 k2
    · rw [ho2 p (by omega), ho1 p (by omega)]
  · refine call (insertion_ok h1 hI (by omega) hc (a := 20 * t) (b := l0.length) (by omega) (Nat.le_refl _) (hinc1 _ (Nat.le_refl _))) ?_
    rintro w3 ⟨l3, h3, hs3, hu3, ho3⟩
    have hP : Two key l0 l3 := by
      have hu3' : SubIn l0 l3 (20 * t) l0.length := fun p k1 k2 => by
        obtain ⟨q, e1, e2, e3⟩ := hu3 p k1 k2
        exact ⟨q, e1, e2, by rw [e3, ho1 q (by omega)]⟩
      have hblk : ∀ k, k < t → SIn key l3 (20 * k) (20 * k + 20) ∧ SubIn l0 l3 (20 * k) (20 * k + 20) := fun k hk => by
        obtain ⟨e1, e2⟩ := hb1 k hk
        refine ⟨fun p q k1 k2 k3 => ?_, fun p k1 k2 => ?_⟩
        · rw [ho3 p (by omega), ho3 q (by omega)]; exact e1 p q k1 k2 k3
        · rw [ho3 p (by omega)]; exact e2 p k1 k2
      refine ⟨fun h20 => ?_, fun h20 => ?_⟩
      · have : t = 0 ∨ (t = 1 ∧ l0.length = 20) := by omega
        rcases this with rfl | ⟨rfl, h20'⟩
        · simpa using hs3
        · rw [h20']; simpa using (hblk 0 (by omega)).1
      · have : t = 1 ∨ (t = 2 ∧ l0.length = 40) := by omega
        rcases this with rfl | ⟨rfl, h40⟩
        · exact ⟨by simpa using (hblk 0 (by omega)).1, by simpa using hs3, by simpa using (hblk 0 (by omega)).2, by simpa using hu3'⟩
        · rw [h40]
          exact ⟨by simpa using (hblk 0 (by omega)).1, by simpa using (hblk 1 (by omega)).1, by simpa using (hblk 0 (by omega)).2, by simpa using (hblk 1 (by omega)).2⟩
    refine ⟨fun bs w' => ∃ l', Sd w0 base s l0 w' l' ∧ ((bs = 20 ∧ Two key l0 l') ∨ (bs = 40 ∧ SIn key l' 0 l0.length)), fun bs _ => 100 - bs.toNat, ⟨l3, h3, .inl ⟨rfl, hP⟩⟩, ?_⟩
    rintro bs w4 ⟨l4, h4, hcase⟩
    intros
    refine cond_dec (fun hlt => ?_) (fun hge => ?_)
    rotate_left
    · rcases hcase with ⟨rfl, hT⟩ | ⟨rfl, hs⟩
      · exact ⟨l4, h4, hT.1 (by omega)⟩
      · exact ⟨l4, h4, hs⟩
    · rcases hcase with ⟨rfl, hT⟩ | ⟨rfl, hs⟩
      rotate_left
      · omega
      have e40 : IntKind.i64.wrap (2 * 20) = 40 := by rw [wrap_of (by decide) (by decide)]; rfl
      have e40' : IntKind.i64.wrap (20 * 2) = 40 := by rw [wrap_of (by decide) (by decide)]; rfl
      rw [e40, e40']
      obtain ⟨t1, t2, t3, t4⟩ := hT.2 (by omega)
      have hnum : ∀ i j, 0 ≤ i → i < 20 → 20 ≤ j → j < l0.length → gt l4 i < gt l4 j := fun i j k1 k2 k3 k4 => by
        obtain ⟨p, e1, e2, e3⟩ := t3 i k1 k2
        obtain ⟨q, e4, e5, e6⟩ := t4 j k3 k4
        rw [e3, e6]; exact hinc p q (by omega) e5
      refine ⟨fun a b w' => ∃ l', Sd w0 base s l0 w' l' ∧ ((a = 0 ∧ b = 40 ∧ l' = l4) ∨ (a = 40 ∧ b = 80 ∧ SIn key l' 0 l0.length)), fun a _ _ => 100 - a.toNat, ⟨l4, h4, .inl ⟨rfl, rfl, rfl⟩⟩, ?_⟩
      rintro a b w5 ⟨l5, h5, hcase⟩
      intros
      rcases hcase with ⟨rfl, rfl, rfl⟩ | ⟨rfl, rfl, hs⟩
      · have e20 : IntKind.i64.wrap (0 + 20) = ((20 : Nat) : Int) := by rw [wrap_of (by decide) (by decide)]; rfl
        rw [e20]
        refine cond_dec (fun hle => ?_) (fun hgt => ?_)
        · have h40 : l0.length = 40 := by omega
          refine call (symMerge_ok hI (by omega) hc 40 h5 (a := 0) (m := 20) (b := 40) (by omega) (by omega) (by omega) (by omega) t1 (by rw [← h40]; exact t2) (fun i j k1 k2 k3 k4 => hnum i j k1 k2 k3 (by omega))) ?_
          rintro w6 ⟨l6, h6, hs6, _, _⟩
          have e80 : IntKind.i64.wrap (40 + 40) = 80 := by rw [wrap_of (by decide) (by decide)]; rfl
          rw [e80]
          exact ⟨⟨l6, h6, .inr ⟨rfl, rfl, by rw [h40]; exact hs6⟩⟩, by simp only []; omega⟩
        · refine cond_dt (by omega) ?_
          refine call (symMerge_ok hI (by omega) hc 40 h5 (a := 0) (m := 20) (b := l0.length) (by omega) (by omega) (by omega) (Nat.le_refl _) t1 t2 hnum) ?_
          rintro w6 ⟨l6, h6, hs6, _, _⟩
          exact ⟨⟨l6, h6, .inr ⟨rfl, hs6⟩⟩, by simp only []; omega⟩
      · have e60 : IntKind.i64.wrap (40 + 20) = 60 := by rw [wrap_of (by decide) (by decide)]; rfl
        rw [e60]
        refine cond_df (by omega) (cond_df (by omega) ⟨⟨l5, h5, .inr ⟨rfl, hs⟩⟩, by simp only []; omega⟩)

theorem SIn.pairwise {l : List Int} (h : SIn key l 0 l.length) : l.Pairwise (ltK key) := by
  rw [List.pairwise_iff_getElem]
  intro i j hi hj hij
  have := h i j (by omega) hij hj
  rwa [gt_get hi, gt_get hj] at this

end

/-- The stable sort of an increasing list: by the keys, those of one key in their order. -/
theorem sortStable_ok {w : World} {base : Nat} {s : Sl} {l : List Int} {cmp : Value} {key : Int → Int} (h : OwnL w base T.t_int s l) (hI : ∀ x ∈ l, I64 x) (hl : l.length ≤ 40) (hinc : l.Pairwise (· < ·))
    (hc : ∀ x ∈ l, ∀ y ∈ l, ∀ w', Chg w w' (oB s) → CALLV Tryz.prog cmp #[.int .i64 x, .int .i64 y] w' (Ret [.at (.int .i64)] fun (r : Int) w'' => (r < 0 ↔ key x < key y) ∧ Ext w' w'')) :
    Calls Tryz.prog F.slices_SortStableFunc_sl_int_int #[s.v, cmp] w (Ret [] fun w' => ∃ l', OwnL w' base T.t_int s l' ∧ Chg w w' (oB s) ∧ l'.Perm l ∧ l'.Pairwise (ltK key)) := by
  refine C_slices_SortStableFunc_sl_int_int ?_
  unfold V_slices_SortStableFunc_sl_int_int
  rw [h.1]
  refine call (stable_ok (w0 := w) (base := base) (s := s) (l0 := l) ⟨h, Chg.refl _ _, List.Perm.refl _⟩ hI hl hc fun i j hij hj => ?_) ?_
  · rw [gt_get (by omega), gt_get hj]
    exact List.pairwise_iff_getElem.1 hinc i j (by omega) hj hij
  · rintro w' ⟨l', h', hs⟩
    rw [← h'.len] at hs
    exact ⟨l', h'.own, h'.chg, h'.perm, hs.pairwise⟩

end Go.Proofs.YtlmiookpmneicaaGreat
end

section
/- Distances in a network, and the search that finds them, in plain words: no program in sight. -/
namespace Go.Proofs.YtlmiookpmneicaaGreat

/-- A walk of k steps from v to x. -/
def Reach (E : Ends) (v : Nat) : Nat → Nat → Prop
  | 0, x => x = v
  | k + 1, x => ∃ y, Reach E v k y ∧ (x : Int) ∈ adjOf E y

/-- The list of all distances from v: -1 where no walk leads. -/
structure Dists (E : Ends) (v : Nat) (D : List Int) : Prop where
  len : D.length = E.length
  low : ∀ u, -1 ≤ D.getD u (-1)
  sound : ∀ u d : Nat, D.getD u (-1) = d → Reach E v d u
  least : ∀ k x, Reach E v k x → 0 ≤ D.getD x (-1) ∧ D.getD x (-1) ≤ k

theorem Dists.eq {E : Ends} {v : Nat} {D D' : List Int} (h : Dists E v D) (h' : Dists E v D') : D = D' := by
  have key : ∀ {A B : List Int}, Dists E v A → Dists E v B → ∀ u, 0 ≤ A.getD u (-1) → 0 ≤ B.getD u (-1) ∧ B.getD u (-1) ≤ A.getD u (-1) := by
    intro A B hA hB u hu
    obtain ⟨d, hd⟩ := Int.eq_ofNat_of_zero_le hu
    have := hB.least d u (hA.sound u d hd)
    rw [hd]
    exact this
  apply List.ext_getElem (by rw [h.len, h'.len])
  intro i h1 h2
  have e1 : D.getD i (-1) = D[i] := by simp [h1]
  have e2 : D'.getD i (-1) = D'[i] := by simp [h2]
  rw [← e1, ← e2]
  have l1 := h.low i
  have l2 := h'.low i
  by_cases hu : 0 ≤ D.getD i (-1)
  · have k1 := key h h' i hu
    have k2 := key h' h i k1.1
    omega
  · by_cases hu' : 0 ≤ D'.getD i (-1)
    · have k2 := key h' h i hu'
      omega
    · omega

/-- The distance of the queue's i-th node. -/
def dv (D W : List Int) (i : Nat) : Int := D.getD (W.getD i 0).toNat (-1)

/-- The search's state: the nodes found so far, in order; their distances; how many have been looked at. -/
structure Bfs (E : Ends) (v : Nat) (W D : List Int) (k : Nat) : Prop where
  len : D.length = E.length
  le : k ≤ W.length
  nodes : ∀ x ∈ W, ∃ u : Nat, x = u ∧ u < E.length
  nodup : W.Nodup
  mem : ∀ u : Nat, u < E.length → ((u : Int) ∈ W ↔ 0 ≤ D.getD u (-1))
  root : (v : Int) ∈ W
  zero : D.getD v (-1) = 0
  low : ∀ u, -1 ≤ D.getD u (-1)
  sound : ∀ u d : Nat, D.getD u (-1) = d → Reach E v d u
  mono : ∀ i j, i ≤ j → j < W.length → dv D W i ≤ dv D W j
  cap : k < W.length → ∀ j < W.length, dv D W j ≤ dv D W k + 1
  done : ∀ i < k, ∀ u : Nat, (u : Int) ∈ adjOf E (W.getD i 0).toNat → 0 ≤ D.getD u (-1) ∧ D.getD u (-1) ≤ dv D W i + 1
  small : ∀ u, D.getD u (-1) < W.length

theorem getD_set {D : List Int} {y : Nat} (hy : y < D.length) (x : Int) (u : Nat) : (D.set y x).getD u (-1) = if u = y then x else D.getD u (-1) := by
  by_cases h : u = y
  · subst h; simp [hy]
  · simp [h, List.getElem?_set_ne (Ne.symm h)]

theorem bfs_start {E : Ends} {v : Nat} (hv : v < E.length) : Bfs E v [(v : Int)] ((List.replicate E.length (-1)).set v 0) 0 := by
  have hg : ∀ u, ((List.replicate E.length (-1 : Int)).set v 0).getD u (-1) = if u = v then 0 else -1 := by
    intro u
    rw [getD_set (by simpa using hv)]
    by_cases h : u < E.length <;> simp [h]
  refine ⟨by simp, by simp, ?_, by simp, ?_, by simp, ?_, ?_, ?_, ?_, ?_, ?_, ?_⟩
  · intro x hx
    exact ⟨v, by simpa using hx, hv⟩
  · intro u hu
    rw [hg]
    by_cases h : u = v
    · simp [h]
    · simp [h]
      omega
  · rw [hg]; simp
  · intro u; rw [hg]; split <;> omega
  · intro u d h
    rw [hg] at h
    split at h
    · obtain rfl : d = 0 := by omega
      assumption
    · omega
  · intro i j hij hj
    simp at hj
    subst hj
    obtain rfl : i = 0 := by omega
    exact Int.le_refl _
  · intro _ j hj
    simp at hj
    subst hj
    omega
  · intro i hi; omega
  · intro u; rw [hg]; simp; split <;> omega

section
variable {E : Ends} {v k : Nat} {W D : List Int}

theorem Bfs.node (h : Bfs E v W D k) {i : Nat} (hi : i < W.length) : ∃ u : Nat, W[i] = u ∧ W.getD i 0 = u ∧ u < E.length ∧ 0 ≤ D.getD u (-1) ∧ dv D W i = D.getD u (-1) := by
  obtain ⟨u, hu, hul⟩ := h.nodes W[i] (List.getElem_mem hi)
  have hg : W.getD i 0 = u := by simp [hi, hu]
  refine ⟨u, hu, hg, hul, (h.mem u hul).1 (by rw [← hu]; exact List.getElem_mem hi), ?_⟩
  unfold dv
  rw [hg]
  simp

/-- A neighbour that has been found already. -/
theorem Bfs.seen (h : Bfs E v W D k) (hk : k < W.length) {y : Nat} (hy : y < E.length) (h0 : 0 ≤ D.getD y (-1)) : D.getD y (-1) ≤ dv D W k + 1 := by
  obtain ⟨j, hj, hjy⟩ := List.mem_iff_getElem.1 ((h.mem y hy).2 h0)
  obtain ⟨u, hu, _, _, _, hd⟩ := h.node hj
  have : u = y := by rw [hjy] at hu; omega
  subst this
  rw [← hd]
  exact h.cap hk j hj

/-- A neighbour that is found now. -/
theorem Bfs.add (h : Bfs E v W D k) (hk : k < W.length) {y : Nat} (hy : y < E.length) (ha : (y : Int) ∈ adjOf E (W.getD k 0).toNat) (hn : D.getD y (-1) < 0) :
    Bfs E v (W ++ [(y : Int)]) (D.set y (dv D W k + 1)) k := by
  have hyD : y < D.length := by rw [h.len]; exact hy
  have hg := getD_set hyD (dv D W k + 1)
  obtain ⟨c, _, hck, hcl, hc0, hcd⟩ := h.node hk
  have hdk : 0 ≤ dv D W k := by omega
  have hold : ∀ i, i < W.length → (W ++ [(y : Int)]).getD i 0 = W.getD i 0 := by
    intro i hi
    simp [List.getElem?_append_left hi]
  have hnew : (W ++ [(y : Int)]).getD W.length 0 = y := by simp
  have hdo : ∀ i, i < W.length → dv (D.set y (dv D W k + 1)) (W ++ [(y : Int)]) i = dv D W i := by
    intro i hi
    obtain ⟨u, _, hu, _, hu0, hud⟩ := h.node hi
    show (D.set y (dv D W k + 1)).getD ((W ++ [(y : Int)]).getD i 0).toNat (-1) = D.getD (W.getD i 0).toNat (-1)
    rw [hold i hi, hu, hg]
    simp only [Int.toNat_natCast]
    rw [if_neg (fun he => by subst he; omega)]
  have hdn : dv (D.set y (dv D W k + 1)) (W ++ [(y : Int)]) W.length = dv D W k + 1 := by
    show (D.set y (dv D W k + 1)).getD ((W ++ [(y : Int)]).getD W.length 0).toNat (-1) = _
    rw [hnew, hg]; simp
  have hyW : (y : Int) ∉ W := fun hm => by have := (h.mem y hy).1 hm; omega
  refine ⟨by simp [h.len], by have := h.le; simp; omega, ?_, ?_, ?_, by simp [h.root], ?_, ?_, ?_, ?_, ?_, ?_, ?_⟩
  · intro x hx
    rcases List.mem_append.1 hx with h1 | h1
    · exact h.nodes x h1
    · exact ⟨y, by simpa using h1, hy⟩
  · rw [List.nodup_append]
    refine ⟨h.nodup, by simp, fun a ha b hb hab => ?_⟩
    rw [List.mem_singleton.1 hb] at hab
    subst hab
    exact hyW ha
  · intro u hu
    rw [hg, List.mem_append, h.mem u hu]
    by_cases he : u = y
    · subst he; simp; omega
    · simp [he]
      omega
  · rw [hg]
    have := h.zero
    rw [if_neg (fun he => by subst he; omega)]
    exact h.zero
  · intro u
    rw [hg]
    split
    · omega
    · exact h.low u
  · intro u d hd
    rw [hg] at hd
    split at hd
    · rename_i he
      subst he
      obtain ⟨e, he⟩ := Int.eq_ofNat_of_zero_le hdk
      obtain rfl : d = e + 1 := by omega
      refine ⟨c, h.sound c e (by rw [← hcd]; exact he), ?_⟩
      rw [hck] at ha
      simpa using ha
    · exact h.sound u d hd
  · intro i j hij hj
    simp at hj
    rcases Nat.lt_or_eq_of_le (Nat.le_of_lt_succ hj) with h1 | h1
    · rw [hdo i (by omega), hdo j h1]; exact h.mono i j hij h1
    · subst h1
      rw [hdn]
      rcases Nat.lt_or_eq_of_le hij with h2 | h2
      · rw [hdo i h2]; exact h.cap hk i h2
      · subst h2; rw [hdn]; exact Int.le_refl _
  · intro _ j hj
    simp at hj
    rw [hdo k hk]
    rcases Nat.lt_or_eq_of_le (Nat.le_of_lt_succ hj) with h1 | h1
    · rw [hdo j h1]; exact h.cap hk j h1
    · subst h1; rw [hdn]; exact Int.le_refl _
  · intro i hi u hu
    rw [hold i (by omega)] at hu
    have := h.done i hi u hu
    rw [hdo i (by omega), hg]
    rw [if_neg (fun he => by subst he; omega)]
    exact this
  · intro u
    rw [hg]
    have h1 := h.small u
    have h2 := h.small c
    simp only [List.length_append, List.length_singleton]
    push_cast
    split <;> omega

/-- What was found before stays as it is. -/
theorem Bfs.add_dv (h : Bfs E v W D k) {y : Nat} (hy : y < E.length) (x : Int) (hn : D.getD y (-1) < 0) {i : Nat} (hi : i < W.length) : dv (D.set y x) (W ++ [(y : Int)]) i = dv D W i := by
  have hyD : y < D.length := by rw [h.len]; exact hy
  obtain ⟨u, _, hu, _, hu0, hud⟩ := h.node hi
  have hold : (W ++ [(y : Int)]).getD i 0 = W.getD i 0 := by simp [List.getElem?_append_left hi]
  unfold dv
  rw [hold, hu, getD_set hyD]
  simp only [Int.toNat_natCast]
  rw [if_neg (fun he => by subst he; omega)]

/-- All neighbours have been looked at. -/
theorem Bfs.next (h : Bfs E v W D k) (hk : k < W.length) (ha : ∀ u : Nat, (u : Int) ∈ adjOf E (W.getD k 0).toNat → 0 ≤ D.getD u (-1) ∧ D.getD u (-1) ≤ dv D W k + 1) : Bfs E v W D (k + 1) :=
  { h with
    le := hk
    cap := fun hk' j hj => by
      have h1 := h.cap hk j hj
      have h2 := h.mono k (k + 1) (by omega) hk'
      omega
    done := fun i hi u hu => by
      rcases Nat.lt_or_eq_of_le (Nat.le_of_lt_succ hi) with h1 | h1
      · exact h.done i h1 u hu
      · subst h1; exact ha u hu }

theorem adj_lt {y x : Nat} (h : (x : Int) ∈ adjOf E y) : y < E.length := by
  by_cases hy : y < E.length
  · exact hy
  · unfold adjOf rowOf at h
    simp [hy] at h

theorem Bfs.end (h : Bfs E v W D W.length) : Dists E v D := by
  refine ⟨h.len, h.low, h.sound, ?_⟩
  intro j
  induction j with
  | zero =>
    intro x hx
    have hx' : x = v := hx
    subst hx'
    rw [h.zero]
    exact ⟨by omega, by omega⟩
  | succ j ih =>
    rintro x ⟨y, hy, hx⟩
    have hyl := adj_lt hx
    obtain ⟨h0, h1⟩ := ih y hy
    obtain ⟨i, hi, hiy⟩ := List.mem_iff_getElem.1 ((h.mem y hyl).2 h0)
    obtain ⟨u, hu, hug, _, _, hd⟩ := h.node hi
    obtain rfl : u = y := by rw [hiy] at hu; omega
    have := h.done i hi x (by rw [hug]; simpa using hx)
    rw [hd] at this
    refine ⟨this.1, ?_⟩
    have h2 := this.2
    push_cast
    omega

theorem nodup_length : ∀ (n : Nat) (l : List Nat), l.Nodup → (∀ x ∈ l, x < n) → l.length ≤ n
  | 0, l, _, h => by
    cases l with
    | nil => simp
    | cons x r => exact absurd (h x (by simp)) (by omega)
  | n + 1, l, hd, h => by
    have h1 := nodup_length n (l.erase n) (hd.erase n) (fun x hx => by
      have hm := (hd.mem_erase_iff).1 hx
      have := h x hm.2
      omega)
    have h2 : l.length ≤ (l.erase n).length + 1 := by
      rw [List.length_erase]
      split <;> omega
    omega

theorem Bfs.size (h : Bfs E v W D k) : W.length ≤ E.length := by
  have := nodup_length E.length (W.map Int.toNat) (by
    rw [List.nodup_iff_pairwise_ne, List.pairwise_map]
    refine (List.nodup_iff_pairwise_ne.1 h.nodup).imp_of_mem ?_
    intro a b ha hb hab he
    obtain ⟨x, rfl, _⟩ := h.nodes a ha
    obtain ⟨y, rfl, _⟩ := h.nodes b hb
    simp at he
    exact hab (by omega)) (by
    intro x hx
    obtain ⟨a, ha, rfl⟩ := List.mem_map.1 hx
    obtain ⟨u, rfl, hu⟩ := h.nodes a ha
    simpa using hu)
  simpa using this
theorem Bfs.elems (h : Bfs E v W D k) : ∀ x ∈ D, -1 ≤ x ∧ x < W.length := by
  intro x hx
  obtain ⟨i, hi, rfl⟩ := List.mem_iff_getElem.1 hx
  have e1 : D.getD i (-1) = D[i] := by simp [hi]
  rw [← e1]
  exact ⟨h.low i, h.small i⟩
end

end Go.Proofs.YtlmiookpmneicaaGreat
end

section
/- The reference's distances from a node. -/
namespace Go.Proofs.YtlmiookpmneicaaGreat
open Go.GX Go.RowKit
set_option maxRecDepth 100000

theorem own_sep {α β : Type} [Flat α] [Flat β] {w w' : World} {b1 b2 : Nat} {e e' : TypeId} {s s' : Sl} {l : List α} {l' : List β} (h : OwnL w b1 e s l) (_ : OwnL w b2 e' s' l')
    (hs : ∀ g, s.v.ownBlock = some g → s'.v.ownBlock ≠ some g) (hst : Step w w' s'.v.ownBlock) : OwnL w' b1 e s l :=
  h.keep fun k hk => hst.block k (h.blk k hk).2 (fun he => hs k hk he.symm)

/-- What the search keeps in memory: distances, queue, apart from each other. -/
structure BfsMem (w1 w' : World) (b1 b2 : Nat) (E : Ends) (v : Nat) (sD sW : Sl) (D W : List Int) (k : Nat) : Prop where
  ext : Ext w1 w'
  dist : OwnL w' b1 T.t_int sD D
  queue : OwnL w' b2 T.t_int sW W
  bfs : Bfs E v W D k
  lo1 : w1.heap.size ≤ b1
  lo12 : b1 ≤ b2
  lo2 : b2 ≤ w'.heap.size
  sep : ∀ g, sD.v.ownBlock = some g → g < b2

theorem BfsMem.next {w1 w' w'' : World} {b1 b2 : Nat} {E : Ends} {v : Nat} {sD sW : Sl} {D W : List Int} {k : Nat} (h : BfsMem w1 w' b1 b2 E v sD sW D W k) (hE : Ext w' w'') : BfsMem w1 w'' b1 b2 E v sD sW D W k :=
  { h with ext := h.ext.trans hE, dist := h.dist.ext hE, queue := h.queue.ext hE, lo2 := Nat.le_trans h.lo2 hE.size_le }

theorem ints_ok {n : Nat} {D : List Int} (h : ∀ x ∈ D, -1 ≤ x ∧ x < (n : Int)) (hn : n ≤ 1000000) : ∀ x ∈ D, Flat.ok x := fun x hx => by
  have := h x hx
  show I64 x
  unfold I64
  omega

end Go.Proofs.YtlmiookpmneicaaGreat
end

section
/- Dominating sets: both sides' tests. -/
namespace Go.Proofs.YtlmiookpmneicaaGreat
open Go.GX Go.RowKit
set_option maxRecDepth 100000

/-- The least of the distances that are not negative. -/
def FarP (D l : List Int) (m : Int) : Prop := ∀ β : Int, (0 ≤ m ∧ m ≤ β) ↔ ∃ s ∈ l, 0 ≤ D.getD s.toNat (-1) ∧ D.getD s.toNat (-1) ≤ β

theorem farP_nil (D : List Int) : FarP D [] (-1) := fun β => by
  constructor
  · rintro ⟨h, _⟩; omega
  · rintro ⟨s, hs, _⟩; cases hs

theorem farP_keep {D l : List Int} {m s : Int} (h : FarP D l m) (hs : D.getD s.toNat (-1) < 0 ∨ (0 ≤ m ∧ m ≤ D.getD s.toNat (-1))) : FarP D (l ++ [s]) m := fun β => by
  rw [h β]
  constructor
  · rintro ⟨x, hx, h1⟩
    exact ⟨x, by simp [hx], h1⟩
  · rintro ⟨x, hx, h1⟩
    rcases List.mem_append.1 hx with h2 | h2
    · exact ⟨x, h2, h1⟩
    · rw [List.mem_singleton.1 h2] at h1
      rcases hs with h3 | h3
      · omega
      · exact (h β).1 (by omega)

theorem farP_take {D l : List Int} {m s : Int} (h : FarP D l m) (h0 : 0 ≤ D.getD s.toNat (-1)) (hs : m < 0 ∨ D.getD s.toNat (-1) < m) : FarP D (l ++ [s]) (D.getD s.toNat (-1)) := fun β => by
  constructor
  · rintro h1
    exact ⟨s, by simp, h1⟩
  · rintro ⟨x, hx, h1⟩
    rcases List.mem_append.1 hx with h2 | h2
    · have := (h β).2 ⟨x, h2, h1⟩
      omega
    · rw [List.mem_singleton.1 h2] at h1
      exact h1

/-- A node of the set lies within β steps. -/
def Within (E : Ends) (l : List Int) (β : Int) (v : Nat) : Prop := ∃ s : Nat, (s : Int) ∈ l ∧ ∃ k : Nat, (k : Int) ≤ β ∧ Reach E v k s

theorem farP_within {n : Net} {l : List Int} (hS : SetOk n l) {v : Nat} {D : List Int} (hD : Dists n.ends v D) {m : Int} (hF : FarP D l m) (β : Int) : (0 ≤ m ∧ m ≤ β) ↔ Within n.ends l β v := by
  rw [hF β]
  constructor
  · rintro ⟨x, hx, h0, h1⟩
    obtain ⟨u, rfl, _⟩ := hS.node x hx
    simp only [Int.toNat_natCast] at h0 h1
    obtain ⟨d, hd⟩ := Int.eq_ofNat_of_zero_le h0
    exact ⟨u, hx, d, by omega, hD.sound u d hd⟩
  · rintro ⟨u, hu, k, hk, hr⟩
    have := hD.least k u hr
    refine ⟨u, hu, ?_⟩
    simp only [Int.toNat_natCast]
    omega

theorem within_one (E : Ends) (l : List Int) (v : Nat) (hn : ∀ x ∈ adjOf E v, ∃ u : Nat, x = u) : Within E l 1 v ↔ (v : Int) ∈ l ∨ ¬ Apart E l v := by
  constructor
  · rintro ⟨s, hs, k, hk, hr⟩
    match k, hr with
    | 0, hr => left; have hr' : s = v := hr; subst hr'; exact hs
    | 1, ⟨y, hy, hm⟩ =>
      have hy' : y = v := hy
      subst hy'
      right
      exact fun hA => hA _ hm hs
    | k + 2, _ => push_cast at hk; omega
  · rintro (h | h)
    · exact ⟨v, h, 0, by omega, rfl⟩
    · unfold Apart at h
      have h' : ∃ x, x ∈ adjOf E v ∧ x ∈ l := by
        apply Classical.byContradiction
        intro hc
        exact h (fun x hx hxl => hc ⟨x, hx, hxl⟩)
      obtain ⟨x, hx, hxl⟩ := h'
      obtain ⟨u, rfl⟩ := hn x hx
      exact ⟨u, hxl, 1, by omega, v, rfl, hx⟩

/-! ### The program's side -/

def upTo (n : Nat) : List Int := (List.range n).map fun (k : Nat) => (k : Int)

theorem upTo_len (n : Nat) : (upTo n).length = n := by simp [upTo]
theorem upTo_ok (n : Nat) (hn : n ≤ 1048576) : ∀ x ∈ upTo n, Flat.ok x := fun x hx => by
  obtain ⟨k, hk, rfl⟩ := List.mem_map.1 hx
  have := List.mem_range.1 hk
  show I64 _
  unfold I64
  omega

theorem numbersTo_ok (n : Nat) (hn : n ≤ 1048576) (w : World) :
    Calls Tryz.prog F.i_numbersTo #[.int .i64 n] w (Ret [.at .sl] fun (r : Sl) w' => Ext w w' ∧ OwnL w' w.heap.size T.t_int r (upTo n)) := by
  refine C_i_numbersTo ?_
  unfold V_i_numbersTo
  refine RUN_make (α := Int) slt_int (d := 0) rfl (by omega) (by unfold maxLen; omega) fun s w1 hE1 hO1 => ?_
  have hsl : s.len = n := by have := hO1.1; simpa using this
  rw [hsl]
  have hul := upTo_len n
  refine ⟨IN n fun i w' => Ext w w' ∧ OwnL w' w.heap.size T.t_int s ((upTo n).take i ++ List.replicate (n - i) 0), MN n, IN_zero ⟨hE1, by simpa using hO1⟩, ?_⟩
  rintro _ w2 ⟨i, rfl, hi, hE, hO⟩
  intros
  refine cond_dec (fun hlt => ?_) (fun hge => ?_)
  · have hi' : i < n := by omega
    have hfl : ((upTo n).take i ++ List.replicate (n - i) 0).length = n := by simp [hul]; omega
    refine IX_own hO (by rw [hfl]; exact hi') rfl fun q hq => ?_
    refine ST_own hO (by rw [hfl]; exact hi') hq (i : Int) rfl fun w3 hO3 hs3 => ?_
    refine IN_next (by omega) hi' ⟨hs3.ext0 hE (fun k hk => (hO.blk k hk).1), ?_⟩
    have hf := fill_step (l := upTo n) (i := i) (by rw [hul]; exact hi') 0
    have hui : (upTo n)[i]'(by rw [hul]; exact hi') = (i : Int) := by simp [upTo]
    rw [hui, hul] at hf
    rw [← hf]
    exact hO3
  · have : i = n := by omega
    subst this
    refine ⟨hE, ?_⟩
    have h1 : (upTo i).take i = upTo i := List.take_of_length_le (by rw [hul]; exact Nat.le_refl _)
    rw [h1] at hO
    simpa using hO

def DomAt (E : Ends) (l : List Int) (v : Nat) : Prop := (v : Int) ∈ l ∨ ¬ Apart E l v
def Dom (E : Ends) (l : List Int) : Prop := ∀ v < E.length, DomAt E l v

end Go.Proofs.YtlmiookpmneicaaGreat
end

section
/- Configuration maps, in plain words: no program in sight. -/
namespace Go.Proofs.YtlmiookpmneicaaGreat
open Go.GX

theorem EdgeIs.symm {p : Prob} {a b : Int} (h : EdgeIs p a b) : EdgeIs p b a := by
  unfold EdgeIs at h ⊢
  rw [sort2] at h ⊢
  by_cases h1 : a ≤ b
  · rw [if_pos h1] at h
    by_cases h2 : b ≤ a
    · have : a = b := by omega
      subst this
      rwa [if_pos h2]
    · rwa [if_neg h2]
  · rw [if_neg h1] at h
    rwa [if_pos (by omega)]

/-- The labels of configurations beside those of their rows. -/
def pairsOf (C R : List (List Int)) : List (Int × Int) := (C.zip R).flatMap fun u => u.1.zip u.2

structure CmOk (p q : Prob) (rows : List (List Int)) : Prop where
  len : rows.length = p.nodes.length
  row : ∀ r ∈ rows, (r.length : Int) = q.degree ∧ AllIn r 0 (q.labels - 1) ∧ NodeOk q r
  pairs : ∀ u ∈ pairsOf p.nodes rows, ∀ v ∈ pairsOf p.nodes rows, EdgeIs p u.1 v.1 → EdgeIs q u.2 v.2

theorem pairs_flat : ∀ {C R : List (List Int)} {d : Nat}, C.length = R.length → (∀ c ∈ C, c.length = d) → (∀ r ∈ R, r.length = d) → pairsOf C R = C.flatten.zip R.flatten
  | [], [], _, _, _, _ => rfl
  | c :: C, r :: R, d, h, hc, hr => by
    have ih := pairs_flat (C := C) (R := R) (d := d) (by simpa using h) (fun x hx => hc x (List.mem_cons_of_mem _ hx)) (fun x hx => hr x (List.mem_cons_of_mem _ hx))
    have e : c.length = r.length := by rw [hc c (by simp), hr r (by simp)]
    rw [List.flatten_cons, List.flatten_cons, List.zip_append e, ← ih]
    simp [pairsOf]

theorem mem_pairs {C R : List (List Int)} {u : Int × Int} : u ∈ pairsOf C R ↔ ∃ (x i : Nat) (hx : x < C.length) (hx' : x < R.length) (hi : i < C[x].length) (hi' : i < R[x].length), u = (C[x][i], R[x][i]) := by
  unfold pairsOf
  rw [List.mem_flatMap]
  constructor
  · rintro ⟨v, hv, hu⟩
    obtain ⟨x, hx, rfl⟩ := List.mem_iff_getElem.1 hv
    rw [List.getElem_zip] at hu
    obtain ⟨i, hi, rfl⟩ := List.mem_iff_getElem.1 hu
    simp only [List.length_zip] at hx hi
    refine ⟨x, i, by omega, by omega, by omega, by omega, ?_⟩
    rw [List.getElem_zip]
  · rintro ⟨x, i, hx, hx', hi, hi', rfl⟩
    refine ⟨(C[x], R[x]), ?_, ?_⟩
    · rw [List.mem_iff_getElem]
      exact ⟨x, by simp; omega, by rw [List.getElem_zip]⟩
    · rw [List.mem_iff_getElem]
      exact ⟨i, by simp; omega, by rw [List.getElem_zip]⟩

/-- Told by places in the flat lists, the first one not behind the second one. -/
theorem pairs_places {p q : Prob} {A B : List Int} (hl : A.length = B.length) :
    (∀ u ∈ A.zip B, ∀ v ∈ A.zip B, EdgeIs p u.1 v.1 → EdgeIs q u.2 v.2) ↔
    ∀ x (hx : x < A.length), ∀ y (hy : y < A.length), x ≤ y → EdgeIs p A[x] A[y] → EdgeIs q (B[x]'(by omega)) (B[y]'(by omega)) := by
  have hmem : ∀ x (hx : x < A.length), (A[x], B[x]'(by omega)) ∈ A.zip B := fun x hx => by
    rw [List.mem_iff_getElem]
    exact ⟨x, by simp; omega, by rw [List.getElem_zip]⟩
  constructor
  · intro h x hx y hy _ he
    exact h _ (hmem x hx) _ (hmem y hy) he
  · intro h u hu v hv he
    obtain ⟨x, hx, rfl⟩ := List.mem_iff_getElem.1 hu
    obtain ⟨y, hy, rfl⟩ := List.mem_iff_getElem.1 hv
    simp only [List.length_zip] at hx hy
    rw [List.getElem_zip, List.getElem_zip] at he ⊢
    simp only at he ⊢
    by_cases hxy : x ≤ y
    · exact h x (by omega) y (by omega) hxy he
    · exact (h y (by omega) x (by omega) (by omega) he.symm).symm

/-! ### Places -/

def keyOf (l : List Int) (x : Int) : Int := l.getD x.toNat 0

def placeOf (l : List Int) (i : Nat) : Nat := (List.range l.length).countP fun j => decide (l.getD j 0 < l.getD i 0 ∨ (l.getD j 0 = l.getD i 0 ∧ j < i))

theorem rank_pairwise {R : Int → Int → Prop} [DecidableRel R] (hi : ∀ x, ¬ R x x) (ha : ∀ x y, R x y → ¬ R y x) : ∀ {l : List Int} {k : Nat} (hk : k < l.length), l.Pairwise R → l.countP (fun x => decide (R x l[k])) = k
  | a :: l, 0, _, h => by
    rw [List.pairwise_cons] at h
    rw [List.countP_eq_zero]
    intro x hx
    simp only [List.getElem_cons_zero, decide_eq_true_eq]
    rcases List.mem_cons.1 hx with rfl | hx
    · exact hi _
    · exact ha _ _ (h.1 x hx)
  | a :: l, k + 1, hk, h => by
    rw [List.pairwise_cons] at h
    have hk' : k < l.length := by simpa using hk
    have ih := rank_pairwise hi ha hk' h.2
    have hR : R a l[k] := h.1 _ (List.getElem_mem hk')
    simp only [List.getElem_cons_succ]
    rw [List.countP_cons_of_pos (by simpa using hR), ih]

theorem place_ports {l ports : List Int} (hp : ports.Perm (upTo l.length)) (hs : ports.Pairwise (ltK (keyOf l))) {k : Nat} (hk : k < ports.length) {i : Nat} (hi : ports[k] = i) : placeOf l i = k := by
  have hd : DecidableRel (ltK (keyOf l)) := fun x y => by unfold ltK; infer_instance
  have h1 := rank_pairwise (R := ltK (keyOf l)) (fun x => by unfold ltK; omega) (fun x y => by unfold ltK; omega) hk hs
  rw [hp.countP_eq] at h1
  unfold upTo at h1
  rw [List.countP_map] at h1
  rw [← h1]
  unfold placeOf
  apply List.countP_congr
  intro j hj
  simp [ltK, keyOf, hi]

/-- The labels that a configuration map gives to a node. -/
def rowFor (C rows : List (List Int)) (l : List Int) : List Int := (List.range l.length).map fun i => (rows.getD (C.idxOf (sortI l)) []).getD (placeOf l i) 0

theorem rowFor_len (C rows : List (List Int)) (l : List Int) : (rowFor C rows l).length = l.length := by simp [rowFor]

theorem idx_of {C : List (List Int)} {size labels : Int} (h : ConfOk C size labels) {k : Nat} (hk : k < C.length) : C.idxOf C[k] = k := by
  have hm : C.idxOf C[k] < C.length := List.idxOf_lt_length_of_mem (List.getElem_mem hk)
  have he : C[C.idxOf C[k]] = C[k] := List.getElem_idxOf hm
  rcases Nat.lt_trichotomy (C.idxOf C[k]) k with h1 | h1 | h1
  · have := h.lt k _ h1 hk
    rw [he, cmpL_zero.2 rfl] at this
    omega
  · exact h1
  · have := h.lt _ k h1 hm
    rw [he, cmpL_zero.2 rfl] at this
    omega

structure McAsked (p q : Prob) (rows : List (List Int)) (n : Net) (L : List (List Int)) : Prop where
  left : PGood p
  right : PGood q
  deg : p.degree = q.degree
  map : CmOk p q rows
  good : Good n
  lab : LabOk p n.ends L
  clean : Clean p n.ends L
  full : ∀ r ∈ L, (r.length : Int) = p.degree

end Go.Proofs.YtlmiookpmneicaaGreat
end

section
/- Configuration maps, both sides. -/
namespace Go.Proofs.YtlmiookpmneicaaGreat
open Go.GX Go.RowKit
set_option maxRecDepth 100000

/-! ### Two slices of the call's own that lie apart -/

def Aside (s t : Sl) : Prop := ∀ k, s.v.ownBlock = some k → t.v.ownBlock ≠ some k

theorem Aside.symm {s t : Sl} (h : Aside s t) : Aside t s := fun k hk hk' => h k hk' hk

theorem Aside.new {w : World} {base : Nat} {s s' t : Sl} {l : List Int} (h : Aside s t) (ht : OwnL w base T.t_int t l) (hn : NewOr w s s') : Aside s' t := fun k hk hk' => by
  rcases hn with h1 | h1
  · exact h k (by rw [← h1]; exact hk) hk'
  · have h2 := h1 k hk
    have h3 := (ht.blk k hk').2
    omega

theorem flat_len {C : List (List Int)} {d : Nat} (h : ∀ c ∈ C, c.length = d) : C.flatten.length = C.length * d := by
  induction C with
  | nil => simp
  | cons c C ih =>
    rw [List.flatten_cons, List.length_append, ih fun x hx => h x (List.mem_cons_of_mem _ hx), h c (by simp), List.length_cons, Nat.succ_mul, Nat.add_comm]

theorem take_flat {C : List (List Int)} {i : Nat} (hi : i < C.length) : (C.take (i + 1)).flatten = (C.take i).flatten ++ C[i] := by
  rw [List.take_succ_eq_append_getElem hi, List.flatten_append]
  simp

theorem flat_I64 {C : List (List Int)} (h : ∀ c ∈ C, ∀ x ∈ c, I64 x) : ∀ x ∈ C.flatten, I64 x := fun x hx => by
  obtain ⟨c, hc, hx⟩ := List.mem_flatten.1 hx
  exact h c hc x hx

/-! ### Whether it is a configuration map: the program -/

def CRow (q : Prob) (r : List Int) : Prop := (r.length : Int) = q.degree ∧ AllIn r 0 (q.labels - 1) ∧ NodeOk q r

theorem isConfigMap_ok {w : World} {c d c' d' rs : Sl} {p q : Prob} {rows : List (List Int)} (h : RProb w c d p) (h' : RProb w c' d' q) (hp : PGood p) (hq : PGood q) (hsp : SmallP p) (hsq : SmallP q) (hdeg : p.degree = q.degree) (hr : R w rs rows) :
    Calls Tryz.prog F.i_isConfigMap #[.agg #[.int .i64 p.labels, .int .i64 p.degree, c.v, d.v], .agg #[.int .i64 q.labels, .int .i64 q.degree, c'.v, d'.v], rs.v] w (Ret [.at .bool] fun (x : Bool) w' => (x = true ↔ CmOk p q rows) ∧ Ext w w') := by
  refine C_i_isConfigMap ?_
  unfold V_i_isConfigMap
  refine NEW_intro fun pp w1 hp1 hs1 hE1 hb1 => NEW_intro fun pq w2 hp2 hs2 hE2 hb2 => LD_bs2 (hb1.ext hE2) ?_
  have hE := hE1.trans hE2
  replace h := h.ext hE
  replace h' := h'.ext hE
  replace hr := hr.ext hE
  replace hb1 := hb1.ext hE2
  have hno : ∀ {w' : World}, Ext w w' → ¬ CmOk p q rows → (false = true ↔ CmOk p q rows) ∧ Ext w w' := fun h1 h2 => ⟨by simp [h2], h1⟩
  have hrb : SlR (fun b => b < w2.heap.size) w2 rs rows := hr.below.weak (fun b hb _ => hb.2) RepP.pos
  rw [hr.len, h.nodes.len]
  refine cond_ne (fun hne => hno hE fun hM => hne (by have := hM.len; omega)) (fun heq => ?_)
  have hlen : rows.length = p.nodes.length := by have : ((rows.length : Nat) : Int) = (p.nodes.length : Nat) := heq; omega
  have hd := hp.deg
  have hnl := hsp.1.1
  have hcn : ∀ x ∈ p.nodes, x.length = p.degree.toNat := fun x hx => by have := (confRow hp.nodes hx).1; omega
  have hn64 := flat_okII h.nodes
  have hr64 := flat_okII hr
  refine ⟨fun (s t : Sl) (x : Int) w' => ∃ i : Nat, x = i ∧ i ≤ rows.length ∧ Ext w2 w' ∧ (∀ r ∈ rows.take i, CRow q r) ∧ OwnL w' w2.heap.size T.t_int s (p.nodes.take i).flatten ∧ OwnL w' w2.heap.size T.t_int t (rows.take i).flatten ∧ Aside s t,
    fun _ _ x _ => rows.length - x.toNat, ⟨0, rfl, by omega, Ext.refl _, by simp, OwnL.nil _ _ _, OwnL.nil _ _ _, fun k hk => by cases hk⟩, ?_⟩
  rintro s t _ w3 ⟨i, rfl, hi, hE3, hI, hA, hB, hap⟩
  intros
  have hcr : ∀ x ∈ rows.take i, x.length = p.degree.toNat := fun x hx => by have := (hI x hx).1; omega
  refine cond_dec (fun hlt => ?_) (fun hge => ?_)
  · have hi' : i < rows.length := by omega
    have hin : i < p.nodes.length := by omega
    refine (hrb.ext hE3).ixL hi' fun q0 s1 hR1 hc => LD_sl hc (LD_bi1 (hb2.ext hE3) ?_)
    rw [hR1.len]
    refine cond_ne (fun hne => hno (hE.trans hE3) fun hM => hne (hM.row _ (List.getElem_mem hi')).1) (fun hreq => LD_iiss (hb2.ext hE3) ?_)
    have hrl : (rows[i].length : Int) = q.degree := hreq
    refine call (hasLabels_ok hq.lab hR1.any) ?_
    rintro x w4 ⟨hx, hE4⟩
    refine cond_not (fun hf => hno (hE.trans (hE3.trans hE4)) fun hM => by rw [hx.2 (hM.row _ (List.getElem_mem hi')).2.1] at hf; cases hf) (fun ht => LD_iiss (hb2.ext (hE3.trans hE4)) ?_)
    refine call (node_ok (h'.ext (hE3.trans hE4)) hsq hq (hR1.any.ext hE4) (by omega)) ?_
    rintro y w5 ⟨hy, hE5⟩
    have hE45 := hE4.trans hE5
    have hE35 := hE3.trans hE45
    refine cond_not (fun hf => hno (hE.trans hE35) fun hM => by rw [hy.2 (hM.row _ (List.getElem_mem hi')).2.2] at hf; cases hf) (fun ht2 => LD_bs2 (hb1.ext hE35) ?_)
    refine (h.nodes.ext hE35).ixL hin fun q1 s2 hR2 hc => LD_sl hc ?_
    have hsz := hE35.size_le
    have hA5 := hA.ext hE45
    have hB5 := hB.ext hE45
    have hfA : (p.nodes.take i).flatten.length = i * p.degree.toNat := by rw [flat_len fun x hx => hcn x (List.mem_of_mem_take hx), List.length_take]; congr 1; omega
    have hfB : (rows.take i).flatten.length = i * p.degree.toNat := by rw [flat_len hcr, List.length_take]; congr 1; omega
    have hmul : i * p.degree.toNat ≤ i * 4 := Nat.mul_le_mul_left _ (by omega)
    have hni := hcn _ (List.getElem_mem hin)
    refine RUN_appendF (α := Int) slt_int hA5 hsz hR2.any (by rw [hfA, hni]; omega) (by rw [hfA, hni]; simp only [maxLen]; omega) fun s' w8 hA8 hs8 hn8 => ?_
    have hB8 := hB5.keep fun k hk => hs8.block k (hB5.blk k hk).2 fun he => hap k he.symm hk
    have hE58 : Ext w2 w8 := hs8.ext0 hE35 fun k hk => (hA5.blk k hk).1
    have hR18 := (hR1.ext hE45).stepD hs8 (fun b hb he => by have := (hA5.blk b he).1; omega)
    refine RUN_appendF (α := Int) slt_int hB8 hE58.size_le hR18.any (by rw [hfB, show rows[i].length = p.degree.toNat by omega]; omega) (by rw [hfB, show rows[i].length = p.degree.toNat by omega]; simp only [maxLen]; omega) fun t' w9 hB9 hs9 hn9 => ?_
    have hap8 : Aside s' t := hap.new hB5 hn8
    have hA9 := hA8.keep fun k hk => hs9.block k (hA8.blk k hk).2 fun he => hap8 k hk he.symm
    have hap9 : Aside s' t' := (hap8.symm.new hA8 hn9).symm
    rw [wrap_of (by omega) (by omega)]
    refine ⟨⟨i + 1, by omega, hi', hs9.ext0 hE58 fun k hk => (hB8.blk k hk).1, fun r hr => ?_, by rw [take_flat hin]; exact hA9, by rw [take_flat hi']; exact hB9, hap9⟩, by simp only []; omega⟩
    rw [List.take_succ_eq_append_getElem hi'] at hr
    rcases List.mem_append.1 hr with h1 | h1
    · exact hI r h1
    · rw [List.mem_singleton.1 h1]; exact ⟨hrl, hx.1 ht, hy.1 ht2⟩
  · have : i = rows.length := by omega
    subst this
    rw [List.take_length] at hI hB hcr
    have htk : p.nodes.take rows.length = p.nodes := List.take_of_length_le (by omega)
    rw [htk] at hA
    have hRA : R w3 s p.nodes.flatten := (hA.rep (flat_I64 hn64)).any
    have hRB : R w3 t rows.flatten := (hB.rep (flat_I64 hr64)).any
    have hfA : p.nodes.flatten.length = p.nodes.length * p.degree.toNat := flat_len hcn
    have hfB : rows.flatten.length = rows.length * p.degree.toNat := flat_len hcr
    have hAB : p.nodes.flatten.length = rows.flatten.length := by rw [hfA, hfB, hlen]
    have hmul : p.nodes.length * p.degree.toNat ≤ p.nodes.length * 4 := Nat.mul_le_mul_left _ (by omega)
    have hpairs := pairs_places (p := p) (q := q) hAB
    rw [← pairs_flat hlen.symm hcn hcr] at hpairs
    generalize hAe : p.nodes.flatten = A at *
    generalize hBe : rows.flatten = B at *
    have hA64 := flat_ok hRA
    have hB64 := flat_ok hRB
    have hE03 := hE.trans hE3
    rw [hRA.len]
    refine ⟨IN A.length fun x w' => Ext w3 w' ∧ ∀ u < x, ∀ (hu : u < A.length) y (hy : y < A.length), u ≤ y → EdgeIs p A[u] A[y] → EdgeIs q (B[u]'(by omega)) (B[y]'(by omega)), MN A.length, IN_zero ⟨Ext.refl _, fun u hu => absurd hu (by omega)⟩, ?_⟩
    rintro _ w10 ⟨x, rfl, hx, hE10, hJ⟩
    intros
    refine cond_dec (fun hlt => ?_) (fun hge2 => ?_)
    · have hx' : x < A.length := by omega
      have hxB : x < B.length := by omega
      refine ⟨fun (y : Int) w' => ∃ j : Nat, y = j ∧ x ≤ j ∧ j ≤ A.length ∧ Ext w3 w' ∧ ∀ k < j, ∀ (hk : k < A.length), x ≤ k → EdgeIs p A[x] A[k] → EdgeIs q B[x] (B[k]'(by omega)), fun y _ => A.length - y.toNat, ⟨x, rfl, by omega, by omega, hE10, fun k hk _ hxk => by omega⟩, ?_⟩
      rintro _ w11 ⟨y, rfl, hxy, hy, hE11, hK⟩
      intros
      refine cond_dec (fun hlt2 => ?_) (fun hge3 => ?_)
      · have hy' : y < A.length := by omega
        have hyB : y < B.length := by omega
        have hEt := hE3.trans hE11
        refine LD_iiss (hb1.ext hEt) ?_
        refine (hRA.ext hE11).ixI hx' fun q1 _ hc => LD_int hc ?_
        refine (hRA.ext hE11).ixI hy' fun q2 _ hc => LD_int hc ?_
        refine QCALL_bool (edgeB p A[x] A[y]) (edgeQ (h.ext hEt) hsp hp (hA64 _ (List.getElem_mem hx')) (hA64 _ (List.getElem_mem hy'))) ?_
        have hgo : ∀ w', Ext w11 w' → (EdgeIs p A[x] A[y] → EdgeIs q B[x] B[y]) → _ := fun w' hE' hok => (show (∃ j : Nat, IntKind.i64.wrap ((y : Int) + 1) = j ∧ x ≤ j ∧ j ≤ A.length ∧ Ext w3 w' ∧ ∀ k < j, ∀ (hk : k < A.length), x ≤ k → EdgeIs p A[x] A[k] → EdgeIs q B[x] (B[k]'(by omega))) ∧ A.length - (IntKind.i64.wrap ((y : Int) + 1)).toNat < A.length - ((y : Int)).toNat by
          rw [wrap_of (by omega) (by omega)]
          refine ⟨⟨y + 1, by omega, by omega, hy', hE11.trans hE', fun k hk hkA hxk => ?_⟩, by omega⟩
          by_cases hky : k = y
          · subst hky; exact hok
          · exact hK k (by omega) hkA hxk)
        refine cond_b (fun ht => ?_) (fun hf w' hE' => hgo w' hE' fun he => absurd he (edgeB_no.1 hf))
        refine LD_iiss (hb2.ext hEt) ?_
        refine (hRB.ext hE11).ixI hxB fun q1 _ hc => LD_int hc ?_
        refine (hRB.ext hE11).ixI hyB fun q2 _ hc => LD_int hc ?_
        refine QCALL_bool (edgeB q B[x] B[y]) (edgeQ (h'.ext hEt) hsq hq (hB64 _ (List.getElem_mem hxB)) (hB64 _ (List.getElem_mem hyB))) ?_
        intro w12 hE12
        refine cond_not (fun hf => hno (hE03.trans (hE11.trans hE12)) fun hM => ?_) (fun ht2 => hgo _ hE12 fun _ => edgeB_iff.1 ht2)
        exact edgeB_no.1 hf (hpairs.1 hM.pairs x hx' y hy' hxy (edgeB_iff.1 ht))
      · have : y = A.length := by omega
        subst this
        refine IN_next (by omega) hx' ⟨hE11, fun u hu huA k hk huk he => ?_⟩
        by_cases hux : u = x
        · subst hux; exact hK k hk hk huk he
        · exact hJ u (by omega) huA k hk huk he
    · have : x = A.length := by omega
      subst this
      refine ⟨by simp only [true_iff]; exact ⟨hlen, hI, hpairs.2 fun u hu y hy huy he => hJ u hu hu y hy huy he⟩, hE03.trans hE10⟩

/-! ### Whether it is a solution -/

theorem isSolution_ok {w : World} {c d a b e s : Sl} {p : Prob} {n : Net} {L : List (List Int)} (hq : RProb w c d p) (hs : SmallP p) (hp : PGood p) (hg : Good n) (h : RNet w a b e n) (hl : R w s L) :
    Calls Tryz.prog F.i_isSolution #[.agg #[.int .i64 p.labels, .int .i64 p.degree, c.v, d.v], .agg #[a.v, b.v, e.v], s.v] w (Ret [.at .bool] fun (x : Bool) w' => (x = true ↔ LabOk p n.ends L ∧ Clean p n.ends L) ∧ Ext w w') := by
  refine C_i_isSolution ?_
  unfold V_i_isSolution
  refine NEW_intro fun pp w1 hp1 hs1 hE1 hb1 => NEW_intro fun pn w2 hp2 hs2 hE2 hb2 => LD_iiss (hb1.ext hE2) (LD_box3 hb2 ?_)
  have hE := hE1.trans hE2
  replace hq := hq.ext hE
  replace h := h.ext hE
  replace hl := hl.ext hE
  replace hb1 := hb1.ext hE2
  refine call (isLabeling_ok hq hp h hl) ?_
  rintro z w5 ⟨hz, hE5⟩
  replace hE := hE.ext hE5
  replace hq := hq.ext hE5
  replace h := h.ext hE5
  replace hl := hl.ext hE5
  replace hb1 := hb1.ext hE5
  replace hb2 := hb2.ext hE5
  refine cond_not (fun hf => ⟨(by simp only [Bool.false_eq_true, false_iff]; intro hA; rw [hz.2 hA.1] at hf; cases hf), hE⟩) (fun ht3 => LD_iiss hb1 (LD_box3 hb2 ?_))
  have hA : SolAsked p n L := ⟨hp, hg, hz.1 ht3⟩
  refine call (labelFault_ok hq hs hA.fin h hl) ?_
  rintro v i f w6 ⟨hf, hE6⟩
  refine ⟨?_, hE.trans hE6⟩
  rcases hf with ⟨rfl, hfa⟩ | ⟨rfl, _, _, hcl⟩
  · simp only [Bool.not_true, Bool.false_eq_true, false_iff]
    exact fun h => hfa.bad h.2
  · simp only [Bool.not_false, true_iff]
    exact ⟨hA.lab, hcl⟩

end Go.Proofs.YtlmiookpmneicaaGreat
end
