/- Matchings that are built edge by edge: GreedyMatching, both sides. -/
import Derived.Test.YtknnjkmggenliaaMax
import Derived.Test.YtknnjkmggenliaaMark
import Derived.Test.YtknnjkmggenliaaDelete
namespace Go.Proofs.Ytknnjkmggenliaa
open Go.GX Go.RowKit
set_option maxRecDepth 100000



/-- An edge is taken. -/
def putE (m : List Int) (q : Edge) : List Int := (m.set q.1.toNat q.2.1).set q.2.2.1.toNat q.2.2.2
def takeE (m : List Int) (q : Edge) : List Int := if FreeEdge m q then putE m q else m
def greedyM (E : Ends) (l : List Edge) : List Int := l.foldl takeE (List.replicate E.length (-1))

theorem putE_len (m : List Int) (q : Edge) : (putE m q).length = m.length := by simp [putE]
theorem takeE_len (m : List Int) (q : Edge) : (takeE m q).length = m.length := by unfold takeE; split <;> simp [putE]
theorem greedyM_len (E : Ends) (l : List Edge) : (greedyM E l).length = E.length := by
  unfold greedyM
  have : ∀ m : List Int, (l.foldl takeE m).length = m.length := by
    induction l with
    | nil => intro m; rfl
    | cons q r ih => intro m; rw [List.foldl_cons, ih, takeE_len]
  rw [this]; simp
theorem greedyM_snoc (E : Ends) (l : List Edge) (q : Edge) : greedyM E (l ++ [q]) = takeE (greedyM E l) q := by simp [greedyM]

theorem putE_all {m : List Int} {q : Edge} {p : Int → Prop} (h : ∀ x ∈ m, p x) (h1 : p q.2.1) (h2 : p q.2.2.2) : ∀ x ∈ putE m q, p x := fun x hx => by
  rcases List.mem_or_eq_of_mem_set hx with h3 | h3
  · rcases List.mem_or_eq_of_mem_set h3 with h4 | h4
    · exact h x h4
    · rw [h4]; exact h1
  · rw [h3]; exact h2

theorem greedyM_all {E : Ends} {l : List Edge} {p : Int → Prop} (h0 : p (-1)) (h : ∀ q ∈ l, p q.2.1 ∧ p q.2.2.2) : ∀ x ∈ greedyM E l, p x := by
  unfold greedyM
  have : ∀ m : List Int, (∀ x ∈ m, p x) → ∀ x ∈ l.foldl takeE m, p x := by
    induction l with
    | nil => intro m hm; exact hm
    | cons q r ih =>
      intro m hm
      refine ih (fun q hq => h q (by simp [hq])) _ ?_
      unfold takeE
      split
      · exact putE_all hm (h q (by simp)).1 (h q (by simp)).2
      · exact hm
  exact this _ fun x hx => by rw [List.eq_of_mem_replicate hx]; exact h0

theorem greedyM_I64 {n : Net} (hg : Good n) {l : List Edge} (h : ∀ q ∈ l, q ∈ edgesOf n.ends) : ∀ x ∈ greedyM n.ends l, I64 x :=
  greedyM_all ⟨by decide, by decide⟩ fun q hq => ⟨(edge_I64 hg q (h q hq)).2.1, (edge_I64 hg q (h q hq)).2.2.2⟩

theorem free_iff {m : List Int} {v i x y : Nat} (hv : v < m.length) (hx : x < m.length) : FreeEdge m ((v : Int), (i : Int), (x : Int), (y : Int)) ↔ (v : Int) ≠ x ∧ m[v] < 0 ∧ m[x] < 0 := by
  unfold FreeEdge
  simp [hv, hx]

theorem mtTake_ok {w : World} {a b c s : Sl} {n : Net} {m : List Int} (h : RNet w a b c n) (hm : R w s m) (hlen : m.length = n.ends.length) (hsm : m.length ≤ 1048576) {v i x y : Nat} (hp : port n.ends v i = some ((x : Int), (y : Int))) (hx : x < n.ends.length) :
    Calls Try.prog F.s_mtTake #[.agg #[a.v, b.v, c.v], s.v, .int .i64 v, .int .i64 i] w (Ret [.at .sl] fun (r : Sl) w' => Ext w w' ∧ OwnL w' w.heap.size T.t_int r (putE m ((v : Int), (i : Int), (x : Int), (y : Int)))) := by
  obtain ⟨hv, hi, hee⟩ := port_some hp
  refine C_s_mtTake ?_
  unfold V_s_mtTake
  refine NEW_intro fun p w1 hp hs hE hb1 => ?_
  replace h := h.ext hE
  replace hm := hm.ext hE
  refine call (l1Own_ok hm hsm) ?_
  rintro r w2 ⟨hE2, hO⟩
  have hvm : v < m.length := by omega
  have hxm : x < (m.set v (i : Int)).length := by simp; omega
  refine IX_own hO hvm rfl fun q hq => ?_
  refine ST_own hO hvm hq (i : Int) rfl fun w3 hO3 hs3 => ?_
  have hE3 := hs3.ext0 hE2 (fun k hk => (hO.blk k hk).1)
  intro w4 hE4 _
  have hE14 := hE3.trans hE4
  have hb4 := hb1.ext hE14
  have h4 := h.ext hE14
  have hO4 := hO3.ext hE4
  have hpl : p.block < w2.heap.size := by have := hb1.lt; have := hE2.size_le; omega
  refine ⟨fun _ => False, fun hf => hf, LD_bs0 hb4 ?_⟩
  refine h4.1.ixL hv fun q s1 hR hc => ⟨fun hf => hf, LD_sl hc ?_⟩
  refine hR.ixE hi fun q _ _ hc0 hc1 => ?_
  rw [hee] at hc0 hc1
  refine ⟨fun hf => hf, LD_int hc0 ⟨fun hf => hf, LD_bs0 hb4 ?_⟩⟩
  refine h4.1.ixL hv fun q2 s2 hR2 hc2 => ⟨fun hf => hf, LD_sl hc2 ⟨Chg.refl _ _, ?_⟩⟩
  refine hR2.ixE hi fun q2 _ _ hd0 hd1 => ⟨Chg.refl _ _, Chg.refl _ _, ?_⟩
  rw [hee] at hd0 hd1
  refine LD_int hd1 ⟨Chg.refl _ _, ?_⟩
  refine IX_own hO4 hxm rfl fun q3 hq3 => ?_
  refine ST_own hO4 hxm hq3 (y : Int) rfl fun w5 hO5 hs5 => ?_
  exact ⟨hE.trans (hs5.ext0 hE14 (fun k hk => (hO4.blk k hk).1)), hO5.low hE.size_le⟩

end Go.Proofs.Ytknnjkmggenliaa
