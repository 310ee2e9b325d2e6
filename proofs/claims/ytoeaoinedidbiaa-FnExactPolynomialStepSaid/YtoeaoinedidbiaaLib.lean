/- Contracts of functions of the library: Mul, Repeat. -/
import Derived.Test.YtoeaoinedidbiaaColl
import Derived.Test.YtoeaoinedidbiaaCopy
namespace Go.Proofs.Ytoeaoinedidbiaa
open Go.GX Go.RowKit
set_option maxRecDepth 100000

theorem mul_ok {x y : Nat} (h : x * y < 4294967296) (hx : x < 4294967296) (hy : y < 4294967296) (w : World) :
    Calls Try.prog F.math_bits_Mul #[.int .u64 x, .int .u64 y] w (Ret [.at (.int .u64), .at (.int .u64)] fun (a b : Int) w' => a = 0 ∧ b = ((x * y : Nat) : Int) ∧ w = w') := by
  refine C_math_bits_Mul ?_
  unfold V_math_bits_Mul
  refine call (Q := fun (a b : Int) w' => a = 0 ∧ b = ((x * y : Nat) : Int) ∧ w = w') (C_math_bits_Mul64 ?_) (fun a b w' h => h)
  unfold V_math_bits_Mul64
  refine ⟨by decide, by decide, by decide, by decide, by decide, ?_⟩
  have s0 : ∀ a : Nat, a < 4294967296 → shrI .u64 a 32 = 0 := fun a ha => by
    have := shr_nat .u64 a 32 (by decide)
    rw [show ((32 : Nat) : Int) = 32 from rfl] at this
    rw [this, Nat.div_eq_of_lt (by simpa using ha)]; rfl
  have wr : ∀ a : Nat, a < 4294967296 → IntKind.u64.wrap (a : Int) = a := fun a ha => wrap_u64 (by omega) (by omega)
  have z0 : shrI .u64 0 32 = 0 := s0 0 (by omega)
  have w0 : IntKind.u64.wrap 0 = 0 := wr 0 (by omega)
  have b0 : bitAnd .u64 0 4294967295 = 0 := bitAnd_u64_low 0 (by omega)
  rw [s0 x hx, s0 y hy, bitAnd_u64_low x hx, bitAnd_u64_low y hy, ← Int.natCast_mul, wr _ h, s0 _ h]
  simp only [Int.zero_mul, Int.mul_zero, w0, z0, b0, Int.add_zero]
  exact ⟨trivial, trivial, trivial⟩

theorem repl_step {n k : Nat} {v : Int} (hk : k ≤ n) (h0 : 0 < k) : ((List.replicate k v ++ List.replicate (n - k) 0).take k ++ (List.replicate k v).take (n - k) ++ (List.replicate k v ++ List.replicate (n - k) 0).drop (k + min (List.replicate k v).length (n - k))) = List.replicate (k + min k (n - k)) v ++ List.replicate (n - (k + min k (n - k))) (0 : Int) := by
  simp only [List.length_replicate]
  rw [List.take_append_of_le_length (by simp), List.take_replicate, Nat.min_self, List.take_replicate, List.drop_append, List.drop_eq_nil_of_le (by simp), List.nil_append, List.drop_replicate, List.length_replicate, List.replicate_append_replicate]
  congr 2
  · omega
  · omega

theorem repeat_ok {w : World} {s : Sl} {v : Int} (h : R w s [v]) (hv : I64 v) {n : Nat} (hn : n ≤ 1048576) :
    Calls Try.prog F.slices_Repeat_sl_int_int #[s.v, .int .i64 n] w (Ret [.at .sl] fun (r : Sl) w' => Ext w w' ∧ OwnL w' w.heap.size T.t_int r (List.replicate n v)) := by
  refine C_slices_Repeat_sl_int_int ?_
  unfold V_slices_Repeat_sl_int_int
  refine cond_df (by omega) ?_
  have hsl : s.len = 1 := h.len
  rw [hsl, wrap_u64 (by omega) (by omega), wrap_u64 (by omega) (by omega)]
  refine call (mul_ok (x := 1) (y := n) (by omega) (by omega) (by omega) w) ?_
  rintro a b _ ⟨rfl, rfl, rfl⟩
  refine cond_df (by omega) ?_
  refine cond_df (by omega) ?_
  unfold V_slices_Repeat_sl_int_int_k2
  rw [Nat.one_mul, wrap_of (by omega) (by omega)]
  refine RUN_make (α := Int) slt_int (d := 0) rfl (by omega) (by unfold maxLen; omega) fun r w1 hE1 hO1 => ?_
  have hrl : r.len = n := by rw [hO1.1]; simp
  refine RUN_copy (α := Int) rfl slt_int hO1 (off := 0) (d := r) (fun _ => by cases r.a <;> simp [add_zero']) (by simp [hrl]) (h.ext hE1) fun w2 hO2 hs2 _ => ?_
  have hE2 := hs2.ext0 hE1 (fun k hk => (hO1.blk k hk).1)
  refine ⟨fun x w' => ∃ k : Nat, x = k ∧ k ≤ n ∧ (0 < n → 0 < k) ∧ Ext w w' ∧ OwnL w' w.heap.size T.t_int r (List.replicate k v ++ List.replicate (n - k) 0), fun x _ => n - x.toNat, ⟨min 1 n, ?_, by omega, by omega, hE2, ?_⟩, ?_⟩
  · simp [hrl]
  · rcases Nat.eq_zero_or_pos n with h0 | h0
    · subst h0
      simpa [hrl] using hO2
    · have e1 : min 1 n = 1 := by omega
      rw [e1]
      have e2 : (List.take 0 (List.replicate n (0 : Int)) ++ List.take r.len [v] ++ List.drop (0 + min [v].length r.len) (List.replicate n 0)) = List.replicate 1 v ++ List.replicate (n - 1) 0 := by
        rw [hrl]
        simp [List.take_of_length_le (l := [v]) (i := n) (by simp; omega), e1]
      rw [← e2]; exact hO2
  rintro x w3 ⟨k, rfl, hk, hpos, hE3, hO3⟩
  intros
  refine cond_dec (fun hlt => ?_) (fun hge => ?_)
  · have hkn : k < n := by omega
    have hk0 : 0 < k := hpos (by omega)
    intro w4 hE4 hheap
    refine ⟨fun _ => True, ?_⟩
    have hcap : r.len ≤ r.cap := ((hO3.rep (by intro x hx; rcases List.mem_append.1 hx with h1 | h1 <;> rw [List.eq_of_mem_replicate h1]; exact hv; exact ⟨by decide, by decide⟩)).2.1).1
    refine SLC_from hcap (by omega) fun d hdl hda => ⟨Chg.refl _ _, ?_⟩
    refine SLC_to (by omega) fun y hyl hya hyc => ⟨Chg.refl _ _, ?_⟩
    have hO4 := hO3.ext hE4
    have hR4 := hO4.rep (by intro x hx; rcases List.mem_append.1 hx with h1 | h1 <;> rw [List.eq_of_mem_replicate h1]; exact hv; exact ⟨by decide, by decide⟩)
    have hRy : R w4 y (List.replicate k v) := by
      refine ⟨by simp [hyl], ⟨by omega, by have := hR4.2.1.2; omega⟩, fun i x hx => ?_⟩
      obtain ⟨a, cs, h1, _, h3, h4⟩ := hR4.2.2 i x (by
        obtain ⟨hi, _⟩ := List.getElem?_eq_some_iff.1 hx
        rw [List.getElem?_append_left hi]; exact hx)
      exact ⟨a, cs, by rw [hya]; exact h1, trivial, h3, h4⟩
    refine RUN_copy (α := Int) rfl slt_int hO4 (off := k) (d := d) (fun hd0 => by rw [hda (by omega)]; simp) (by simp; omega) hRy fun w5 hO5 hs5 _ => ?_
    rw [hdl, hrl] at hO5 ⊢
    rw [repl_step hk hk0] at hO5
    have hmin : min (List.replicate k v).length (n - k) = min k (n - k) := by simp
    refine ⟨.of_step hs5 fun _ _ => trivial, .of_step hs5 fun _ _ => trivial, ?_⟩
    rw [hmin, wrap_of (by omega) (by omega)]
    exact ⟨⟨k + min k (n - k), by omega, by omega, by omega, hs5.ext0 (hE3.trans hE4) (fun b hb => (hO4.blk b hb).1), hO5⟩, by show n - (_ : Int).toNat < n - (_ : Int).toNat; omega⟩
  · have : k = n := by omega
    subst this
    exact ⟨hE3, by simpa using hO3⟩

theorem noMatching_ok {w : World} {a b c : Sl} {n : Net} (h : RNet w a b c n) (hn : n.ends.length ≤ 1048576) :
    Calls Try.prog F.i_noMatching #[.agg #[a.v, b.v, c.v]] w (Ret [.at .sl] fun (r : Sl) w' => Ext w w' ∧ OwnL w' w.heap.size T.t_int r (List.replicate n.ends.length (-1))) := by
  refine C_i_noMatching ?_
  unfold V_i_noMatching
  refine NEW_intro fun p w1 hp hs hE hb1 => ?_
  replace h := h.ext hE
  refine RUN_lit1 (α := Int) slt_int (-1) rfl (by decide) fun r w2 hE2 hO2 => ?_
  replace h := h.ext hE2
  replace hb1 := hb1.ext hE2
  replace hE := hE.ext hE2
  refine LD_bs0 hb1 ?_
  rw [h.1.len]
  refine call (repeat_ok (hO2.rep (by intro x hx; simp at hx; subst hx; exact ⟨by decide, by decide⟩)).any ⟨by decide, by decide⟩ hn) ?_
  rintro r3 w3 ⟨hE3, hO3⟩
  exact ⟨hE.trans hE3, hO3.low hE.size_le⟩

theorem roFree_ok {n : Nat} (hn : n ≤ 1048576) (w : World) :
    Calls Try.prog F.s_roFree #[.int .i64 n] w (Ret [.at .sl] fun (r : Sl) w' => Ext w w' ∧ OwnL w' w.heap.size T.t_int r (List.replicate n (-1))) := by
  refine C_s_roFree ?_
  unfold V_s_roFree
  refine RUN_make (α := Int) slt_int (d := 0) rfl (by omega) (by unfold maxLen; omega) fun r w1 hE1 hO1 => ?_
  rw [hO1.1, List.length_replicate]
  refine ⟨IN n fun i w' => Ext w w' ∧ OwnL w' w.heap.size T.t_int r (List.replicate i (-1) ++ List.replicate (n - i) 0), MN n, IN_zero ⟨hE1, by simpa using hO1⟩, ?_⟩
  rintro x w2 ⟨i, rfl, hi, hE, hO⟩
  intros
  refine cond_dec (fun hlt => ?_) (fun hge => ?_)
  · have hi' : i < n := by omega
    refine IX_own hO (by simp; omega) rfl fun p hp => ?_
    refine ST_own hO (by simp; omega) hp (-1 : Int) rfl fun w3 hO3 hs => ?_
    refine IN_next (by omega) hi' ⟨hs.ext0 hE (fun k hk => (hO.blk k hk).1), ?_⟩
    have e : (List.replicate i (-1 : Int) ++ List.replicate (n - i) 0).set i (-1) = List.replicate (i + 1) (-1) ++ List.replicate (n - (i + 1)) 0 := by
      rw [List.set_append_right _ _ (by simp), List.length_replicate, Nat.sub_self, show n - i = (n - (i + 1)) + 1 by omega, List.replicate_succ, List.set_cons_zero, List.replicate_succ']
      simp
    rw [← e]; exact hO3
  · have : i = n := by omega
    subst this
    exact ⟨hE, by simpa using hO⟩

theorem mtFree_ok {w : World} {a b c : Sl} {n : Net} (h : RNet w a b c n) (hn : n.ends.length ≤ 1048576) :
    Calls Try.prog F.s_mtFree #[.agg #[a.v, b.v, c.v]] w (Ret [.at .sl] fun (r : Sl) w' => Ext w w' ∧ OwnL w' w.heap.size T.t_int r (List.replicate n.ends.length (-1))) := by
  refine C_s_mtFree ?_
  unfold V_s_mtFree
  refine NEW_intro fun p w1 hp hs hE hb1 => LD_bs0 hb1 ?_
  rw [h.1.len]
  refine call (roFree_ok hn w1) ?_
  rintro r3 w3 ⟨hE3, hO3⟩
  exact ⟨hE.trans hE3, hO3.low hE.size_le⟩

theorem l1Own_ok {w : World} {s : Sl} {l : List Int} (h : R w s l) (hl : l.length ≤ 1048576) :
    Calls Try.prog F.s_l1Own #[s.v] w (Ret [.at .sl] fun (r : Sl) w' => Ext w w' ∧ OwnL w' w.heap.size T.t_int r l) := by
  refine C_s_l1Own ?_
  unfold V_s_l1Own
  refine RUN_lit0 (α := Int) slt_int fun r w1 hE1 hO1 => ?_
  refine RUN_append (α := Int) slt_int hO1 hE1.size (h.ext hE1) (by simp; omega) (by simp [maxLen]; omega) fun r' w2 hO2 hs => ?_
  exact ⟨hs.ext0 hE1 (fun k hk => (hO1.blk k hk).1), by simpa using hO2⟩

end Go.Proofs.Ytoeaoinedidbiaa
