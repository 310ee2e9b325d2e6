/- Own texts, merged: FailNet, Fail, Fail2, FailingNetworkWalk, Door. -/
import Derived.Test.YtndebacmnpghkaaM2
import Derived.Test.YtndebacmnpghkaaRows
import Derived.KernelRfl
import Derived.JoinedOf
set_option linter.unusedVariables false
section
/- Networks as answers: the two nodes on which a list fails; what marks do to a network of the call's own. -/
namespace Go.GX
open Go.RowKit

/-- One cell of a record is written. -/
theorem ST_fieldE {w : World} {base : Nat} {e : TypeId} {s : Sl} {l : List (Int × Int)} (h : OwnL w base e s l) {i : Nat} (hi : i < l.length) {p : Addr} (hp : Plc s i 2 p) {off : Nat} (hoff : off < 2) {v : Value} (hv1 : v.oneCell' = true) (x : Int × Int) (hx : Flat.cells x = (Flat.cells l[i]).set off v) {K : World → Prop}
    (hk : ∀ w', OwnL w' base e s (l.set i x) → Step w w' s.v.ownBlock → K w') : ST (p.add off) 0 [v] w K := by
  obtain ⟨a, ha, rfl⟩ := hp
  rcases h.2.2 with ⟨hv, h0⟩ | ⟨g, cap, cur, hv, _⟩
  · rw [h.1] at h0; omega
  · have hv' := hv
    simp [Sl.v] at hv
    obtain ⟨hsa, rfl⟩ := hv
    rw [hsa] at ha; cases ha
    have hown : w.ownsRow base e 2 (.slice (some ⟨g, 0, none⟩) s.len s.cap) s.len (l.flatMap Flat.cells) := by
      have := h.2; unfold Own at this; rw [hv'] at this; exact this
    have hlen : (l.flatMap Flat.cells).length = l.length * 2 := by have := h.2.length; rwa [h.1] at this
    refine setMany_own [v] (i * 2 + off) _ w K hown (by simpa using hv1) (by rw [hlen, List.length_singleton]; omega) (fun w' hw' hs => hk w' ⟨by simp [h.1], ?_⟩ (by rw [hv']; exact hs)) _ 0 (by rw [add_zero', add_add]; simp only [Addr.add]; split <;> simp_all)
    unfold Own
    rw [hv', flat_set l hi x, hx]
    have hcl : (Flat.cells l[i]).length = 2 := Flat.size _
    have e1 : l.flatMap Flat.cells = (l.flatMap Flat.cells).take (i * 2) ++ Flat.cells l[i] ++ (l.flatMap Flat.cells).drop (i * 2 + (Flat.cells l[i]).length) := by
      have := flat_set l hi l[i]
      rwa [List.set_getElem_self] at this
    have e2 : (l.flatMap Flat.cells).take (i * 2 + off) ++ [v] ++ (l.flatMap Flat.cells).drop (i * 2 + off + 1) = (l.flatMap Flat.cells).set (i * 2 + off) v := by
      rw [List.set_eq_take_append_cons_drop, if_pos (by omega)]
      simp
    rw [List.length_singleton, e2] at hw'
    rw [e1, List.set_append_left _ _ (by rw [List.length_append, List.length_take, hcl]; omega), List.set_append_right _ _ (by rw [List.length_take]; omega)] at hw'
    rw [List.length_take, Nat.min_eq_left (by omega), Nat.add_sub_cancel_left] at hw'
    rw [List.length_set]
    exact hw'

end Go.GX
namespace Go.Proofs.Ytndebacmnpghkaa
open Go.GX Go.RowKit
set_option maxRecDepth 100000

/-! ### In plain words -/

def swapP (i j k : Nat) : Nat := if k = i then j else if k = j then i else k
def failRow (t : Int) (d i j : Nat) : List Pt := (List.range d).map fun k => (t, ((swapP i j k : Nat) : Int))
def failAB (d i j a b : Nat) : Ends := [(failRow 1 d i j).take a, (failRow 0 d i j).take b]
def failNet (d i j : Nat) : Net := ⟨failAB d i j d d, [], [0, 0]⟩
def noNet : Net := ⟨[], [], []⟩

theorem failRow_len (t : Int) (d i j : Nat) : (failRow t d i j).length = d := by simp [failRow]
theorem failRow_get {t : Int} {d i j k : Nat} (hk : k < (failRow t d i j).length) : (failRow t d i j)[k] = (t, ((swapP i j k : Nat) : Int)) := by simp [failRow]
theorem swap_lt {d i j k : Nat} (hi : i < d) (hj : j < d) (hk : k < d) : swapP i j k < d := by
  unfold swapP
  split
  · exact hj
  · split
    · exact hi
    · exact hk
theorem swap_swap (i j k : Nat) : swapP i j (swapP i j k) = k := by
  unfold swapP
  by_cases h1 : k = i
  · rw [if_pos h1]
    by_cases h2 : j = i
    · rw [if_pos h2]; omega
    · rw [if_neg h2, if_pos rfl]; omega
  · rw [if_neg h1]
    by_cases h2 : k = j
    · rw [if_pos h2, if_pos rfl]; omega
    · rw [if_neg h2, if_neg h1, if_neg h2]

theorem failAB_0 {d i j a b : Nat} (ha : a < d) : (failAB d i j a b)[0]? = some ((failRow 1 d i j).take a) ∧ (failAB d i j a b).set 0 ((failRow 1 d i j).take a ++ [(1, ((swapP i j a : Nat) : Int))]) = failAB d i j (a + 1) b := by
  refine ⟨rfl, ?_⟩
  have h : a < (failRow 1 d i j).length := by rw [failRow_len]; exact ha
  unfold failAB
  rw [List.take_succ_eq_append_getElem h, failRow_get h]
  rfl
theorem failAB_1 {d i j a b : Nat} (hb : b < d) : (failAB d i j a b)[1]? = some ((failRow 0 d i j).take b) ∧ (failAB d i j a b).set 1 ((failRow 0 d i j).take b ++ [(0, ((swapP i j b : Nat) : Int))]) = failAB d i j a (b + 1) := by
  refine ⟨rfl, ?_⟩
  have h : b < (failRow 0 d i j).length := by rw [failRow_len]; exact hb
  unfold failAB
  rw [List.take_succ_eq_append_getElem h, failRow_get h]
  rfl
theorem failAB_full (d i j : Nat) : failAB d i j d d = [failRow 1 d i j, failRow 0 d i j] := by
  unfold failAB
  rw [List.take_of_length_le (by rw [failRow_len]; exact Nat.le_refl _), List.take_of_length_le (by rw [failRow_len]; exact Nat.le_refl _)]
theorem failAB_rows (d i j a b : Nat) : ∀ r ∈ failAB d i j a b, r.length ≤ d ∧ ∀ e ∈ r, (e.1 = 0 ∨ e.1 = 1) ∧ ∃ k, k < d ∧ e.2 = ((swapP i j k : Nat) : Int) := fun r hr => by
  have main : ∀ t : Int, (t = 0 ∨ t = 1) → ∀ c, ((failRow t d i j).take c).length ≤ d ∧ ∀ e ∈ (failRow t d i j).take c, (e.1 = 0 ∨ e.1 = 1) ∧ ∃ k, k < d ∧ e.2 = ((swapP i j k : Nat) : Int) := fun t ht c => by
    refine ⟨by rw [List.length_take, failRow_len]; omega, fun e he => ?_⟩
    have he := List.mem_of_mem_take he
    unfold failRow at he
    obtain ⟨k, hk, rfl⟩ := List.mem_map.1 he
    exact ⟨ht, k, List.mem_range.1 hk, rfl⟩
  unfold failAB at hr
  simp only [List.mem_cons, List.not_mem_nil, or_false] at hr
  rcases hr with rfl | rfl
  · exact main 1 (.inr rfl) a
  · exact main 0 (.inl rfl) b

theorem fail_good {d i j : Nat} (hi : i < d) (hj : j < d) (hd : d ≤ 6) : Good (failNet d i j) := by
  have hE : (failNet d i j).ends = [failRow 1 d i j, failRow 0 d i j] := failAB_full d i j
  have hp : ∀ (v k : Nat), v < 2 → k < d → port (failNet d i j).ends v k = some (((1 - v : Nat) : Int), ((swapP i j k : Nat) : Int)) := fun v k hv hk => by
    rw [hE]
    match v, hv with
    | 0, _ => 
      have h : k < (failRow 1 d i j).length := by rw [failRow_len]; exact hk
      simp [port, failRow_get h, h]
    | 1, _ => 
      have h : k < (failRow 0 d i j).length := by rw [failRow_len]; exact hk
      simp [port, failRow_get h, h]
  refine ⟨by rw [hE]; simp, ?_, ?_, fun v hv => ?_⟩
  · exact ⟨(fun x hx => by cases hx), List.nodup_nil, Or.inl rfl⟩
  · refine ⟨by rw [hE]; rfl, fun x hx => ?_⟩
    have : x = 0 := by
      have hx' : x ∈ [(0 : Int), 0] := hx
      simpa using hx'
    omega
  · have hv2 : v < 2 := by rw [hE] at hv; simpa using hv
    have hlen : ∀ r, (failNet d i j).ends[v]? = some r → r.length = d := fun r hr => by
      rw [hE] at hr
      match v, hv2 with
      | 0, _ => simp at hr; rw [← hr, failRow_len]
      | 1, _ => simp at hr; rw [← hr, failRow_len]
    refine ⟨fun r hr => by rw [hlen r hr]; exact hd, fun k e he => ?_⟩
    obtain ⟨h1, h2, _⟩ := port_some he
    have hkd : k < d := by rw [← hlen _ (List.getElem?_eq_getElem h1)]; exact h2
    rw [hp v k hv2 hkd] at he
    cases he
    refine ⟨1 - v, swapP i j k, rfl, ?_⟩
    rw [hp (1 - v) _ (by omega) (swap_lt hi hj hkd), swap_swap]
    congr 2
    omega

/-! ### Networks of the call's own -/

theorem _root_.Go.GX.RowsD.blkE {w : World} {base : Nat} {s : Sl} {L : Ends} {ss : List Sl} (h : RowsD w base T.t_i_End T.t_sl_i_End s L ss) {b : Nat} (hb : MB s ss b) : base ≤ b ∧ b < w.heap.size := by
  rcases hb with hb | ⟨r, hr, hb⟩
  · exact h.own.blk b hb
  · obtain ⟨i, hi, rfl⟩ := List.mem_iff_getElem.1 hr
    have hl := h.len
    exact (h.row i ss[i] (L[i]'(by omega)) (by simp [hi]) (by simp)).blk b hb

theorem _root_.Go.GX.RowsD.keepE {w w' : World} {base : Nat} {s : Sl} {L : Ends} {ss : List Sl} (h : RowsD w base T.t_i_End T.t_sl_i_End s L ss) (hk : ∀ b, MB s ss b → w'.heap[b]? = w.heap[b]?) : RowsD w' base T.t_i_End T.t_sl_i_End s L ss :=
  ⟨h.own.keep fun b hb => hk b (.inl hb), h.len, fun i r l hr hl => (h.row i r l hr hl).keep fun b hb => hk b (.inr ⟨r, List.mem_of_getElem? hr, hb⟩), h.apart⟩

/-- A network of the call's own: its blocks lie between two bounds; it has no ids. -/
structure OutN (base top : Nat) (w : World) (x y z : Sl) (n : Net) : Prop where
  ends : ∃ ss : List Sl, RowsD w base T.t_i_End T.t_sl_i_End x n.ends ss ∧ ∀ b, MB x ss b → b < top
  ids : y = ⟨none, 0, 0⟩ ∧ n.ids = []
  inputs : OwnL w base T.t_int z n.inputs ∧ ∀ b, z.v.ownBlock = some b → b < top
  i64 : (∀ r ∈ n.ends, ∀ e ∈ r, I64 e.1 ∧ I64 e.2) ∧ ∀ e ∈ n.inputs, I64 e
  small : (n.ends.length ≤ 1000 ∧ ∀ r ∈ n.ends, r.length ≤ 1000) ∧ n.inputs.length ≤ 1000

section
variable {base top : Nat} {w w' : World} {x y z : Sl} {n : Net}
theorem OutN.net (h : OutN base top w x y z n) : RNet w x y z n := by
  obtain ⟨ss, h1, _⟩ := h.ends
  refine ⟨h1.rep fun r hr e he => h.i64.1 r hr e he, ?_, (h.inputs.1.rep h.i64.2).any⟩
  rw [h.ids.1, h.ids.2]
  exact ((OwnL.nil w base T.t_int).rep (by simp)).any
theorem OutN.keep (h : OutN base top w x y z n) (hk : ∀ b, base ≤ b → b < top → b < w.heap.size → w'.heap[b]? = w.heap[b]?) : OutN base top w' x y z n := by
  obtain ⟨ss, h1, h2⟩ := h.ends
  exact ⟨⟨ss, h1.keepE fun b hb => hk b (h1.blkE hb).1 (h2 b hb) (h1.blkE hb).2, h2⟩, h.ids, ⟨h.inputs.1.keep fun b hb => hk b (h.inputs.1.blk b hb).1 (h.inputs.2 b hb) (h.inputs.1.blk b hb).2, h.inputs.2⟩, h.i64, h.small⟩
theorem OutN.ext (h : OutN base top w x y z n) (hE : Ext w w') : OutN base top w' x y z n := h.keep fun _ _ _ h4 => hE.same h4
theorem OutN.chgR (h : OutN base top w x y z n) {lo hi : Nat} (hC : Chg w w' (fun b => lo ≤ b ∧ b < hi)) (hh : hi ≤ base) : OutN base top w' x y z n :=
  h.keep fun b h1 _ h3 => hC.block b h3 fun hD => by have h5 : b < hi := hD.2; omega
theorem OutN.none (base top : Nat) (w : World) : OutN base top w ⟨none, 0, 0⟩ ⟨none, 0, 0⟩ ⟨none, 0, 0⟩ noNet :=
  ⟨⟨[], RowsD.nil _ _ _ _, fun b hb => by
    rcases hb with hb | ⟨r, hr, _⟩
    · cases hb
    · cases hr⟩, ⟨rfl, rfl⟩, ⟨OwnL.nil _ _ _, fun b hb => by cases hb⟩, ⟨by simp [noNet], by simp [noNet]⟩, by simp [noNet]⟩
end

/-! ### Marks -/

def marksE (k : Int) (n : Nat) : List Pt := (List.range n).map fun (i : Nat) => (k + 2 * (i : Int), k + 2 * (i : Int) + 1)
theorem marksE_len (k : Int) (n : Nat) : (marksE k n).length = n := by simp [marksE]
theorem marksE_get {k : Int} {n i : Nat} (hi : i < (marksE k n).length) : (marksE k n)[i] = (k + 2 * (i : Int), k + 2 * (i : Int) + 1) := by simp [marksE]
theorem marksE_I64 {k : Int} {n : Nat} (h0 : 0 ≤ k) (h1 : k + 2 * n ≤ 1152921504606846976) : ∀ e ∈ marksE k n, I64 e.1 ∧ I64 e.2 := fun e he => by
  unfold marksE at he
  obtain ⟨i, hi, rfl⟩ := List.mem_map.1 he
  have := List.mem_range.1 hi
  unfold I64
  simp only []
  omega

theorem mid_set {α : Type} {A l : List α} {i : Nat} (hA : A.length = l.length) (hi : i < l.length) : (A.take i ++ l.drop i).set i (A[i]'(by omega)) = A.take (i + 1) ++ l.drop (i + 1) := by
  rw [List.set_append_right _ _ (by rw [List.length_take]; omega), List.length_take, Nat.min_eq_left (by omega), Nat.sub_self, List.drop_eq_getElem_cons hi, List.set_cons_zero, List.take_succ_eq_append_getElem (by omega), List.append_assoc]
  rfl

theorem markEndS_own {w : World} {base : Nat} {s : Sl} {l : List Pt} (h : OwnL w base T.t_i_End s l) (k : Int) (h0 : 0 ≤ k) (h1 : k ≤ 1125899906842624) (hl : l.length ≤ 1000) :
    Calls Try.prog F.l_markEndS #[s.v, .int .i64 k] w (Ret [.at (.int .i64)] fun (r : Int) w' => r = k + 2 * l.length ∧ OwnL w' base T.t_i_End s (marksE k l.length) ∧ Step w w' s.v.ownBlock) := by
  refine C_l_markEndS ?_
  unfold V_l_markEndS
  rw [h.1]
  have hml := marksE_len k l.length
  refine ⟨IN2 l.length fun i (r : Int) w' => r = k + 2 * i ∧ OwnL w' base T.t_i_End s ((marksE k l.length).take i ++ l.drop i) ∧ Step w w' s.v.ownBlock, MN2 l.length, IN2_zero ⟨by simp, by simpa using h, Step.refl _ _⟩, ?_⟩
  rintro _ _ w1 ⟨i, rfl, hi, rfl, hO, hS⟩
  intros
  refine cond_dec (fun hlt => ?_) (fun hge => ?_)
  · have hi' : i < l.length := by omega
    have hlen : ((marksE k l.length).take i ++ l.drop i).length = l.length := by simp [hml]; omega
    have hcur : i < ((marksE k l.length).take i ++ l.drop i).length := by omega
    refine IX_own hO hcur rfl fun p hp => ?_
    refine ST_fieldE hO hcur hp (by decide) rfl (k + 2 * (i : Int), ((marksE k l.length).take i ++ l.drop i)[i].2) rfl fun w2 hO2 hs2 => ?_
    have hcur2 : i < (((marksE k l.length).take i ++ l.drop i).set i (k + 2 * (i : Int), ((marksE k l.length).take i ++ l.drop i)[i].2)).length := by rw [List.length_set]; exact hcur
    refine IX_own hO2 hcur2 rfl fun p2 hp2 => ?_
    rw [wrap_of (n := k + 2 * i + 1) (by omega) (by omega)]
    refine ST_fieldE hO2 hcur2 hp2 (by decide) rfl (k + 2 * (i : Int), k + 2 * (i : Int) + 1) (by rw [List.getElem_set_self]; rfl) fun w3 hO3 hs3 => ?_
    rw [wrap_of (n := k + 2 * i + 1 + 1) (by omega) (by omega)]
    refine IN2_next (by omega) hi' ⟨by omega, ?_, (hS.trans hs2).trans hs3⟩
    rw [List.set_set] at hO3
    have e := mid_set hml hi'
    rw [marksE_get (by omega)] at e
    rw [← e]
    exact hO3
  · have : i = l.length := by omega
    subst this
    refine ⟨rfl, ?_, hS⟩
    rw [List.drop_length, List.append_nil, List.take_of_length_le (by omega)] at hO
    exact hO

theorem heldEndS_ok {w : World} {s : Sl} {n : Nat} (k : Int) (h : R w s (marksE k n)) (h0 : 0 ≤ k) (h1 : k ≤ 1125899906842624) (hl : n ≤ 1000) :
    Calls Try.prog F.l_heldEndS #[s.v, .int .i64 k] w (Ret [.at (.int .i64)] fun (r : Int) w' => r = k + 2 * n ∧ w = w') := by
  refine C_l_heldEndS ?_
  unfold V_l_heldEndS
  rw [h.len, marksE_len]
  refine ⟨IN2 n fun i (r : Int) w' => r = k + 2 * i ∧ w = w', MN2 n, IN2_zero ⟨by simp, rfl⟩, ?_⟩
  rintro _ _ w1 ⟨i, rfl, hi, rfl, rfl⟩
  intros
  refine cond_dec (fun hlt => ?_) (fun hge => ?_)
  · have hi' : i < (marksE k n).length := by rw [marksE_len]; omega
    refine h.ixE hi' fun p _ _ hc0 hc1 => LD_int hc0 ?_
    rw [marksE_get hi'] at *
    refine cond_ne (fun hne => absurd rfl hne) (fun _ => ?_)
    refine h.ixE hi' fun p2 _ _ hc2 hc3 => LD_int hc3 ?_
    rw [marksE_get hi', wrap_of (n := k + 2 * i + 1) (by omega) (by omega)]
    refine cond_ne (fun hne => absurd rfl hne) (fun _ => ?_)
    rw [wrap_of (n := k + 2 * i + 1 + 1) (by omega) (by omega)]
    exact IN2_next (by omega) (by omega) ⟨by omega, rfl⟩
  · have : i = n := by omega
    subst this
    exact ⟨rfl, rfl⟩

def preE (L : Ends) (i : Nat) : Nat := ((L.take i).map fun r => 2 * r.length).sum
def marks2E (k : Int) (L : Ends) : Ends := (List.range L.length).map fun i => marksE (k + preE L i) (L.getD i []).length
theorem marks2E_len (k : Int) (L : Ends) : (marks2E k L).length = L.length := by simp [marks2E]
theorem marks2E_get {k : Int} {L : Ends} {i : Nat} (hi : i < L.length) : (marks2E k L)[i]'(by rw [marks2E_len]; exact hi) = marksE (k + preE L i) L[i].length := by
  simp [marks2E, hi]
theorem preE_succ {L : Ends} {i : Nat} (hi : i < L.length) : preE L (i + 1) = preE L i + 2 * L[i].length := by
  unfold preE
  rw [List.take_succ_eq_append_getElem hi, List.map_append, List.sum_append]
  simp
theorem preE_le {L : Ends} (hL : ∀ r ∈ L, r.length ≤ 1000) : ∀ i, i ≤ L.length → preE L i ≤ 2000 * i
  | 0, _ => by simp [preE]
  | i + 1, hi => by
    have ih := preE_le hL i (by omega)
    have h1 := hL _ (List.getElem_mem (show i < L.length by omega))
    rw [preE_succ (by omega)]
    omega

theorem markEndSS_rows {base : Nat} {w : World} {s : Sl} {L : Ends} {ss : List Sl} (hM : RowsD w base T.t_i_End T.t_sl_i_End s L ss) (hrows : L.length ≤ 1000) (hsmall : ∀ r ∈ L, r.length ≤ 1000) (k : Int) (h0 : 0 ≤ k) (h1 : k ≤ 1125899906) :
    Calls Try.prog F.l_markEndSS #[s.v, .int .i64 k] w (Ret [.at (.int .i64)] fun (r : Int) w' => r = k + preE L L.length ∧ RowsD w' base T.t_i_End T.t_sl_i_End s (marks2E k L) ss ∧ Chg w w' (RB ss)) := by
  refine C_l_markEndSS ?_
  unfold V_l_markEndSS
  obtain ⟨hO, hlen, hR, hD⟩ := hM
  rw [hO.1]
  have hpl := fun i hi => preE_le hsmall i hi
  refine ⟨IN2 ss.length fun i (r : Int) w' => r = k + preE L i ∧ OwnL w' base T.t_sl_i_End s ss ∧ (∀ (j : Nat) (q : Sl) (l : List Pt), ss[j]? = some q → (if j < i then marks2E k L else L)[j]? = some l → OwnL w' base T.t_i_End q l) ∧ Chg w w' (RB ss), MN2 ss.length,
    IN2_zero ⟨by simp [preE], hO, by simpa using hR, Chg.refl _ _⟩, ?_⟩
  rintro _ _ w1 ⟨i, rfl, hi, rfl, hO1, hR1, hC1⟩
  intros
  refine cond_dec (fun hlt => ?_) (fun hge => ?_)
  · have hi' : i < ss.length := by omega
    have hiL : i < L.length := by omega
    refine (hO1.rep fun _ _ => trivial).ix (n := 1) rfl (by omega) (by omega) fun p cs hrep hc => ?_
    simp only [Int.toNat_natCast] at hrep
    have hcs : cs = [ss[i].v] := hrep
    subst hcs
    refine LD_sl (hc 0 _ rfl) ?_
    have hOi := hR1 i ss[i] L[i] (by simp [hi']) (by simp [hiL])
    have hp := hpl i (by omega)
    refine call (markEndS_own hOi (k + preE L i) (by omega) (by omega) (hsmall _ (List.getElem_mem hiL))) ?_
    rintro r w2 ⟨rfl, hO2, hs2⟩
    refine IN2_next (by omega) hi' ⟨by rw [preE_succ hiL]; omega, hO1.keep fun b hb => hs2.block b (hO1.blk b hb).2 fun he => ?_, fun j q l hq hl => ?_, hC1.trans (.of_step hs2 fun b hb => ⟨ss[i], List.getElem_mem hi', hb⟩)⟩
    · obtain ⟨c1, e1⟩ := hO1.type hb
      obtain ⟨c2, e2⟩ := hOi.type he.symm
      rw [e1] at e2
      exact absurd (Obj.cells.inj (Option.some.inj e2)).2.1 (by decide)
    · by_cases hji : j = i
      · subst hji
        rw [if_pos (by omega), List.getElem?_eq_getElem (by rw [marks2E_len]; exact hiL), marks2E_get hiL] at hl
        rw [List.getElem?_eq_getElem hi'] at hq
        cases hq
        cases hl
        exact hO2
      · have hl' : (if j < i then marks2E k L else L)[j]? = some l := by
          by_cases hj : j < i
          · rw [if_pos (by omega)] at hl; rw [if_pos hj]; exact hl
          · rw [if_neg (by omega)] at hl; rw [if_neg hj]; exact hl
        have hq' := hR1 j q l hq hl'
        exact hq'.keep fun b hb => hs2.block b (hq'.blk b hb).2 fun he => hD j i q ss[i] hq (by simp [hi']) hji b hb he.symm
  · have : i = ss.length := by omega
    subst this
    exact ⟨by rw [hlen], ⟨hO1, by rw [marks2E_len]; exact hlen, fun j q l hq hl => hR1 j q l hq (by rw [if_pos (List.getElem?_eq_some_iff.1 hq).1]; exact hl), hD⟩, hC1⟩

theorem heldEndSS_ok {w : World} {s : Sl} {L : Ends} (k : Int) (h : R w s (marks2E k L)) (h0 : 0 ≤ k) (h1 : k ≤ 1125899906) (hl : L.length ≤ 1000) (hll : ∀ r ∈ L, r.length ≤ 1000) :
    Calls Try.prog F.l_heldEndSS #[s.v, .int .i64 k] w (Ret [.at (.int .i64)] fun (r : Int) w' => r = k + preE L L.length ∧ w = w') := by
  refine C_l_heldEndSS ?_
  unfold V_l_heldEndSS
  rw [h.len, marks2E_len]
  have hpl := fun i hi => preE_le hll i hi
  refine ⟨IN2 L.length fun i (r : Int) w' => r = k + preE L i ∧ w = w', MN2 L.length, IN2_zero ⟨by simp [preE], rfl⟩, ?_⟩
  rintro _ _ w1 ⟨i, rfl, hi, rfl, rfl⟩
  intros
  refine cond_dec (fun hlt => ?_) (fun hge => ?_)
  · have hiL : i < L.length := by omega
    refine h.ixL (by rw [marks2E_len]; exact hiL) fun p r hr hc => LD_sl hc ?_
    rw [marks2E_get hiL] at hr
    have hp := hpl i (by omega)
    have hrl := hll _ (List.getElem_mem hiL)
    refine call (heldEndS_ok (k + preE L i) hr.any (by omega) (by omega) hrl) ?_
    rintro r _ ⟨rfl, rfl⟩
    refine cond_df (by omega) ?_
    exact IN2_next (by omega) hiL ⟨by rw [preE_succ hiL]; omega, rfl⟩
  · have : i = L.length := by omega
    subst this
    exact ⟨rfl, rfl⟩

/-- A network whose cells hold marks. -/
structure MarkedN (w : World) (x y z : Sl) (n : Net) (k : Int) : Prop where
  ends : R w x (marks2E 1 n.ends)
  ids : y = ⟨none, 0, 0⟩
  inputs : R w z (marks (1 + preE n.ends n.ends.length) n.inputs.length)
  val : k = 1 + preE n.ends n.ends.length + n.inputs.length
  small : (n.ends.length ≤ 1000 ∧ ∀ r ∈ n.ends, r.length ≤ 1000) ∧ n.inputs.length ≤ 1000

theorem MarkedN.ext {w w' : World} {x y z : Sl} {n : Net} {k : Int} (h : MarkedN w x y z n k) (hE : Ext w w') : MarkedN w' x y z n k := ⟨h.ends.ext hE, h.ids, h.inputs.ext hE, h.val, h.small⟩

theorem markN_out {base top : Nat} {w : World} {x y z : Sl} {n : Net} (h : OutN base top w x y z n) (ht : top ≤ w.heap.size) :
    Calls Try.prog F.l_markNetwork #[.agg #[x.v, y.v, z.v], .int .i64 1] w (Ret [.at (.int .i64)] fun (r : Int) w' => 0 ≤ r ∧ MarkedN w' x y z n r ∧ Chg w w' (fun b => base ≤ b ∧ b < top)) := by
  refine C_l_markNetwork ?_
  unfold V_l_markNetwork
  obtain ⟨⟨ss, hM, hb⟩, ⟨rfl, hid⟩, ⟨hI, hIb⟩, h64, ⟨hr1, hr2⟩, hr3⟩ := h
  have hp := preE_le hr2 _ (Nat.le_refl _)
  refine NEW_intro fun pa w1 hp1 hs1 hE1 hb1 => LD_bs0 hb1 ?_
  have hM1 := hM.ext hE1
  refine call (markEndSS_rows hM1 hr1 hr2 1 (by omega) (by omega)) ?_
  rintro k1 w2 ⟨rfl, hM2, hC2⟩
  have hC2' : Chg w1 w2 (fun b => base ≤ b ∧ b < top) := hC2.mono fun b hB => ⟨(hM1.blkE (.inr hB)).1, hb b (.inr hB)⟩
  have hb2 := hb1.chg hC2' fun hD => by have := hD.2; omega
  have hI1 := hI.ext hE1
  have hI2 : OwnL w2 base T.t_int z n.inputs := hI1.chg hC2 fun b hB hD => by
    obtain ⟨r, hr, hrb⟩ := hD
    obtain ⟨i, hi, rfl⟩ := List.mem_iff_getElem.1 hr
    have hl := hM1.len
    obtain ⟨c1, e1⟩ := (hM1.row i ss[i] (n.ends[i]'(by omega)) (by simp [hi]) (by simp)).type hrb
    obtain ⟨c2, e2⟩ := hI1.type hB
    rw [e1] at e2
    exact absurd (Obj.cells.inj (Option.some.inj e2)).2.1 (by decide)
  refine LD_bs1 hb2 ?_
  refine call (markIntS_ok (OwnL.nil (α := Int) w2 base T.t_int) (1 + preE n.ends n.ends.length) (by omega) (by omega) (by simp)) ?_
  rintro k2 w3 ⟨rfl, _, hs3⟩
  have hE3 : Ext w2 w3 := hs3.ext
  refine LD_bs2 (hb2.ext hE3) ?_
  have hI3 := hI2.ext hE3
  rw [List.length_nil]
  have e0 : (1 : Int) + preE n.ends n.ends.length + ((0 : Nat) : Int) = 1 + preE n.ends n.ends.length := by omega
  rw [e0]
  refine call (markIntS_ok hI3 (1 + preE n.ends n.ends.length) (by omega) (by omega) (by omega)) ?_
  rintro k3 w4 ⟨rfl, hI4, hs4⟩
  have hC4 : Chg w3 w4 (fun b => base ≤ b ∧ b < top) := .of_step hs4 fun b hB => ⟨(hI3.blk b hB).1, hIb b hB⟩
  have hM4 : RowsD w4 base T.t_i_End T.t_sl_i_End x (marks2E 1 n.ends) ss := (hM2.ext hE3).keepE fun b hB => hs4.block b ((hM2.ext hE3).blkE hB).2 fun he => by
    obtain ⟨c2, e2⟩ := hI3.type he.symm
    rcases hB with hB | ⟨r, hr, hrb⟩
    · obtain ⟨c1, e1⟩ := (hM2.ext hE3).own.type hB
      rw [e1] at e2
      exact absurd (Obj.cells.inj (Option.some.inj e2)).2.1 (by decide)
    · obtain ⟨i, hi, rfl⟩ := List.mem_iff_getElem.1 hr
      have hl := (hM2.ext hE3).len
      obtain ⟨c1, e1⟩ := ((hM2.ext hE3).row i ss[i] ((marks2E 1 n.ends)[i]'(by omega)) (by simp [hi]) (by simp)).type hrb
      rw [e1] at e2
      exact absurd (Obj.cells.inj (Option.some.inj e2)).2.1 (by decide)
  refine ⟨by omega, ⟨hM4.rep fun r hr e he => ?_, rfl, (hI4.rep (marks_I64 (by omega) (by omega))).any, rfl, ⟨hr1, hr2⟩, hr3⟩, (Chg.of_ext hE1).trans (hC2'.trans ((Chg.of_ext hE3).trans hC4))⟩
  obtain ⟨i, hi, rfl⟩ := List.mem_iff_getElem.1 hr
  have hiL : i < n.ends.length := by rwa [marks2E_len] at hi
  rw [marks2E_get hiL] at he
  have h5 := preE_le hr2 i (by omega)
  have h6 := hr2 _ (List.getElem_mem hiL)
  exact marksE_I64 (by omega) (by omega) e he

theorem heldN_ok {w : World} {x y z : Sl} {n : Net} {k : Int} (h : MarkedN w x y z n k) :
    Calls Try.prog F.l_heldNetwork #[.agg #[x.v, y.v, z.v], .int .i64 1] w (Ret [.at (.int .i64)] fun (r : Int) w' => r = k ∧ Ext w w') := by
  refine C_l_heldNetwork ?_
  unfold V_l_heldNetwork
  obtain ⟨h1, rfl, h3, rfl, ⟨hr1, hr2⟩, hr3⟩ := h
  have hp := preE_le hr2 _ (Nat.le_refl _)
  refine NEW_intro fun pa w1 hp1 hs1 hE1 hb1 => LD_bs0 hb1 ?_
  refine call (heldEndSS_ok 1 (h1.ext hE1) (by omega) (by omega) hr1 hr2) ?_
  rintro _ _ ⟨rfl, rfl⟩
  refine cond_df (by omega) (LD_bs1 hb1 ?_)
  refine call (heldIntS_ok (n := 0) (1 + preE n.ends n.ends.length) ((OwnL.nil w1 0 T.t_int).rep (by simp)).any (by omega) (by omega) (by omega)) ?_
  rintro _ _ ⟨rfl, rfl⟩
  refine cond_df (by omega) (LD_bs2 hb1 ?_)
  have e0 : (1 : Int) + preE n.ends n.ends.length + ((0 : Nat) : Int) = 1 + preE n.ends n.ends.length := by omega
  rw [e0]
  refine call (heldIntS_ok (1 + preE n.ends n.ends.length) (h3.ext hE1) (by omega) (by omega) (by omega)) ?_
  rintro _ _ ⟨rfl, rfl⟩
  exact cond_df (by omega) ⟨rfl, hE1⟩

end Go.Proofs.Ytndebacmnpghkaa
end

section
/- The network on which a fixed list is no solution: both sides. -/
namespace Go.Proofs.Ytndebacmnpghkaa
open Go.GX Go.RowKit
set_option maxRecDepth 100000

structure FlAsked (p : Prob) (x : List Int) : Prop where
  good : PGood p
  len : (x.length : Int) = p.degree
  labs : AllIn x 0 (p.labels - 1)
  node : NodeOk p x
  bad : ∃ q, badIx p x = some q

def flNet (p : Prob) (x : List Int) : Net := match badIx p x with | some q => failNet x.length q.1 q.2 | none => noNet

/-- One more end in a row, in a region that began before. -/
theorem snocRowX {w0 w : World} (hE0 : Ext w0 w) {base : Nat} {s : Sl} {L : Ends} {ss : List Sl} (h : RowsD w base T.t_i_End T.t_sl_i_End s L ss) (hbase : base ≤ w.heap.size) {v : Nat} {l : List (Int × Int)} (hl : L[v]? = some l) {r : Sl} (hr : ss[v]? = some r) (hlen : l.length ≤ 100) {x y : Int} (hx : I64 x ∧ I64 y) {K : World → Prop}
    (hk : ∀ w' r', RowsD w' base T.t_i_End T.t_sl_i_End s (L.set v (l ++ [(x, y)])) (ss.set v r') → Chg w w' (fun b => oB r b ∨ oB s b) → K w') :
    RUN Try.prog (.at .sl) (Instr.buildSlice T.t_sl_i_End 1 #[(0, .agg #[.int .i64 x, .int .i64 y])]) w fun y1 w1 => Chg w0 w1 (oB r) ∧ (RUN Try.prog (.at .sl) (bsem .append #[T.t_sl_i_End, T.t_sl_i_End] T.t_sl_i_End #[r.v, y1.v]) w1 fun r' w2 => Chg w0 w2 (oB r) ∧ (IX s (v : Int) 1 fun p => GX.ST p 0 [r'.v] w2 K)) := by
  refine RUN_lit1 (α := Int × Int) slt_end (x, y) rfl (by decide) fun y1 w1 hE1 hO1 => ⟨.of_ext (hE0.trans hE1), ?_⟩
  have h1 := h.ext hE1
  have hv : v < L.length := (List.getElem?_eq_some_iff.1 hl).1
  have hO := h1.row v r l hr hl
  refine RUN_appendF (α := Int × Int) slt_end hO (Nat.le_trans hbase hE1.size_le) (hO1.rep (by intro z hz; simp at hz; subst hz; exact hx)).any (by simp; omega) (by simp [maxLen]; omega) fun r' w2 hO2 hs2 hn2 => ?_
  have hc2 : Chg w w2 (oB r) := (Chg.of_ext hE1).trans (.of_step hs2 fun k hk => hk)
  refine ⟨(Chg.of_ext hE0).trans hc2, ?_⟩
  have hR2 : OwnL w2 base T.t_sl_i_End s ss := h1.own.keep fun k hk => hs2.block k (h1.own.blk k hk).2 fun he => h1.block_ne (by decide) hr he.symm hk
  refine IX_own hR2 (by rw [h.len]; exact hv) rfl fun p hp => ?_
  exact h1.put (by decide) hv hr hO2 hs2 hn2 hp fun w3 hR3 hs3 => hk w3 r' hR3 ((hc2.mono fun _ => .inl).trans (.of_step hs3 fun k hk => .inr hk))

theorem emptyNetwork_ok {k : Nat} (hk : 1 ≤ k ∧ k ≤ 40) (w : World) :
    Calls Try.prog F.i_emptyNetwork #[.int .i64 k] w (Ret [.agg [.sl, .sl, .sl], .at .bool] fun (x y z : Sl) (ok : Bool) w' => Ext w w' ∧ ok = true ∧ OwnL w' w.heap.size T.t_sl_i_End x (List.replicate k (⟨none, 0, 0⟩ : Sl)) ∧ y = ⟨none, 0, 0⟩ ∧ OwnL w' w.heap.size T.t_int z (List.replicate k (0 : Int))) := by
  refine C_i_emptyNetwork ?_
  unfold V_i_emptyNetwork
  refine NEW_intro fun p w1 hp hs hE hb => ?_
  refine call (within_ok _ _ _ _) ?_
  rintro _ _ ⟨rfl, rfl⟩
  refine cond_not (fun hf => absurd ⟨by omega, by omega⟩ (inR_false hf)) (fun _ => ?_)
  intro w2 hE2 _
  have hz1 := hE.size_le
  have hz2 := hE2.size_le
  replace hE := hE.ext hE2
  replace hb := hb.ext hE2
  refine ⟨fun b => b = p.block, ?_⟩
  have hA := Ext.refl w2
  refine ⟨?_, ?_⟩
  · skip
    have hzM := hA.size_le
    refine RUN_make (α := Sl) slt_ends (d := ⟨none, 0, 0⟩) rfl (by omega) (by unfold maxLen; omega) fun s wM hEM hOM => ⟨.of_ext (hA.trans hEM), ?_⟩
    replace hOM := hOM.low (base' := w.heap.size) (by omega)
    replace hA := hA.ext hEM
    replace hE := hE.ext hEM
    replace hb := hb.ext hEM
    have hzI := hA.size_le
    refine RUN_make (α := Int) slt_int (d := 0) rfl (by omega) (by unfold maxLen; omega) fun c wI hEI hOI => ⟨.of_ext (hA.trans hEI), ?_⟩
    replace hOI := hOI.low (base' := w.heap.size) (by omega)
    replace hA := hA.ext hEI
    replace hE := hE.ext hEI
    replace hb := hb.ext hEI
    replace hOM := hOM.ext hEI
    refine ⟨.of_ext hA, ?_⟩
    refine ST_all hb (by intro v hv; simp at hv; rcases hv with rfl | rfl | rfl <;> rfl) rfl fun w5 hs5 _ hb5 => ⟨(Chg.of_ext hA).trans (.of_step hs5 fun k hk => by cases hk; rfl), (Chg.of_ext hA).trans (.of_step hs5 fun k hk => by cases hk; rfl), ?_⟩
    refine LD_box3 hb5 ⟨hs5.ext0 hE fun k hk => by cases hk; omega, rfl, hOM.stepB hb (by decide) hs5, rfl, hOI.stepB hb (by decide) hs5⟩
  · skip
    have hzI := hA.size_le
    refine RUN_make (α := Int) slt_int (d := 0) rfl (by omega) (by unfold maxLen; omega) fun c wI hEI hOI => ⟨.of_ext (hA.trans hEI), ?_⟩
    replace hOI := hOI.low (base' := w.heap.size) (by omega)
    replace hA := hA.ext hEI
    replace hE := hE.ext hEI
    replace hb := hb.ext hEI
    have hzM := hA.size_le
    refine RUN_make (α := Sl) slt_ends (d := ⟨none, 0, 0⟩) rfl (by omega) (by unfold maxLen; omega) fun s wM hEM hOM => ⟨.of_ext (hA.trans hEM), ?_⟩
    replace hOM := hOM.low (base' := w.heap.size) (by omega)
    replace hA := hA.ext hEM
    replace hE := hE.ext hEM
    replace hb := hb.ext hEM
    replace hOI := hOI.ext hEM
    refine ⟨.of_ext hA, ?_⟩
    refine ST_all hb (by intro v hv; simp at hv; rcases hv with rfl | rfl | rfl <;> rfl) rfl fun w5 hs5 _ hb5 => ⟨(Chg.of_ext hA).trans (.of_step hs5 fun k hk => by cases hk; rfl), (Chg.of_ext hA).trans (.of_step hs5 fun k hk => by cases hk; rfl), ?_⟩
    refine LD_box3 hb5 ⟨hs5.ext0 hE fun k hk => by cases hk; omega, rfl, hOM.stepB hb (by decide) hs5, rfl, hOI.stepB hb (by decide) hs5⟩

theorem failEnd_ok {w : World} {p1 p2 : Addr} {t1 t2 : TypeId} {i j k : Nat} {v : Int} (h1 : Box w p1 t1 [.int .i64 (i : Int)]) (h2 : Box w p2 t2 [.int .i64 (j : Int)]) (hv : v = 0 ∨ v = 1) :
    Calls Try.prog F.i_FailingNetwork_1 #[.int .i64 v, .int .i64 k, .pointer (some p1), .pointer (some p2)] w (Ret [.agg [.int .i64, .int .i64]] fun (a b : Int) w' => Ext w w' ∧ a = 1 - v ∧ b = ((swapP i j k : Nat) : Int)) := by
  refine C_i_FailingNetwork_1 ?_
  unfold V_i_FailingNetwork_1
  refine NEW_intro fun pe w1 hp hs hE hb => ?_
  replace h1 := h1.ext hE
  replace h2 := h2.ext hE
  have ev : IntKind.i64.wrap (1 - v) = 1 - v := wrap_of (by omega) (by omega)
  rw [ev]
  have fin : ∀ b : Int, b = ((swapP i j k : Nat) : Int) → GX.ST pe 0 [.int .i64 (1 - v), .int .i64 b] w1 fun w2 => LD [.int .i64, .int .i64] pe w2 fun (x : Int) (y : Int) => Ext w w2 ∧ x = 1 - v ∧ y = ((swapP i j k : Nat) : Int) := fun b hbb =>
    ST_all hb (one2 _ _) rfl fun w2 hs2 _ hb2 => LD_box2 hb2 ⟨hs2.ext0 hE fun q hq => by cases hq; omega, rfl, hbb⟩
  refine LD_bi h1 ?_
  refine cond_eq (fun he => LD_bi h2 (fin _ ?_)) (fun hne => LD_bi h2 ?_)
  · have : k = i := by have : (k : Int) = (i : Int) := he; omega
    unfold swapP
    rw [if_pos this]
  · have hki : k ≠ i := fun e => hne (by rw [e])
    refine cond_eq (fun he => LD_bi h1 (fin _ ?_)) (fun hne2 => fin _ ?_)
    · have : k = j := by have : (k : Int) = (j : Int) := he; omega
      unfold swapP
      rw [if_neg hki, if_pos this]
    · have hkj : k ≠ j := fun e => hne2 (by rw [e])
      unfold swapP
      rw [if_neg hki, if_neg hkj]

theorem ab_len (d i j a b : Nat) : (failAB d i j a b).length = 2 := rfl

theorem fail_out {w : World} {base : Nat} {x z : Sl} {ss : List Sl} {d i j : Nat} (hi : i < d) (hj : j < d) (hd : d ≤ 6) (hR : RowsD w base T.t_i_End T.t_sl_i_End x (failAB d i j d d) ss) (hz : OwnL w base T.t_int z (List.replicate 2 (0 : Int))) : OutN base w.heap.size w x ⟨none, 0, 0⟩ z (failNet d i j) := by
  refine ⟨⟨ss, hR, fun b hb => (hR.blkE hb).2⟩, ⟨rfl, rfl⟩, ⟨hz, fun b hb => (hz.blk b hb).2⟩, ⟨fun r hr e he => ?_, fun e he => ?_⟩, ⟨by rw [show (failNet d i j).ends.length = 2 from rfl]; omega, fun r hr => ?_⟩, by rw [show (failNet d i j).inputs.length = 2 from rfl]; omega⟩
  · obtain ⟨h1, k, hk, h2⟩ := (failAB_rows d i j d d r hr).2 e he
    have := swap_lt hi hj hk
    unfold I64
    omega
  · have : e = 0 := by
      have he' : e ∈ [(0 : Int), 0] := he
      simpa using he'
    unfold I64; omega
  · have := (failAB_rows d i j d d r hr).1
    omega

theorem wired_ok {w : World} {p1 p2 : Addr} {t1 t2 : TypeId} {d i j : Nat} (h1 : Box w p1 t1 [.int .i64 (i : Int)]) (h2 : Box w p2 t2 [.int .i64 (j : Int)]) (hi : i < d) (hj : j < d) (hd : d ≤ 6) :
    Calls Try.prog F.i_wired #[.int .i64 2, .int .i64 d, .func (.func F.i_FailingNetwork_1) #[] #[.pointer (some p1), .pointer (some p2)]] w (Ret [.agg [.sl, .sl, .sl], .at .bool] fun (x y z : Sl) (ok : Bool) w' => Ext w w' ∧ ok = true ∧ OutN w.heap.size w'.heap.size w' x y z (failNet d i j)) := by
  refine C_i_wired ?_
  unfold V_i_wired
  refine NEW_intro fun px w1 hpx hsx hE hbx => ?_
  have h1lt : p1.block < w1.heap.size := by have := h1.lt; omega
  have h2lt : p2.block < w1.heap.size := by have := h2.lt; omega
  replace h1 := h1.ext hE
  replace h2 := h2.ext hE
  refine call (emptyNetwork_ok (k := 2) ⟨by omega, by omega⟩ w1) ?_
  rintro x y z ok w2 ⟨hE2, rfl, hx, rfl, hz⟩
  replace hE := hE.ext hE2
  replace h1 := h1.ext hE2
  replace h2 := h2.ext hE2
  replace hbx := hbx.ext hE2
  refine NEW_ST (one3 _ _ _) rfl fun pn w4 hpn hE4 hbn => ?_
  replace hE := hE.ext hE4
  replace h1 := h1.ext hE4
  replace h2 := h2.ext hE4
  replace hbx := hbx.ext hE4
  replace hx := hx.ext hE4
  replace hz := hz.ext hE4
  refine cond_not (fun hf => by cases hf) (fun _ => ?_)
  refine cond_dec (fun hgt => by omega) (fun _ => ?_)
  unfold V_i_wired_k1
  refine LD_bs0 hbn ?_
  rw [hx.1, List.length_replicate]
  have hw1 : w.heap.size ≤ w1.heap.size := by omega
  have hR0 : RowsD w4 w1.heap.size T.t_i_End T.t_sl_i_End x (failAB d i j 0 0) (List.replicate 2 ⟨none, 0, 0⟩) := rows_blank hx
  have hpb : w1.heap.size ≤ pn.block := by have := hE2.size_le; omega
  have hxlt : px.block < w1.heap.size := by omega
  refine ⟨IN 2 fun v w' => Ext w w' ∧ w1.heap.size ≤ w'.heap.size ∧ Box w' pn T.t_i_Network [x.v, (⟨none, 0, 0⟩ : Sl).v, z.v] ∧ Box w' px T.t_i_Network [.slice none 0 0, .slice none 0 0, .slice none 0 0] ∧ Box w' p1 t1 [.int .i64 (i : Int)] ∧ Box w' p2 t2 [.int .i64 (j : Int)] ∧ OwnL w' w1.heap.size T.t_int z (List.replicate 2 (0 : Int)) ∧ ∃ ss, RowsD w' w1.heap.size T.t_i_End T.t_sl_i_End x (failAB d i j (if 0 < v then d else 0) (if 1 < v then d else 0)) ss, MN 2, IN_zero ⟨hE, by have := hE2.size_le; have := hE4.size_le; omega, hbn, hbx, h1, h2, hz, _, hR0⟩, ?_⟩
  rintro _ w5 ⟨v, rfl, hv, hE5, hz5, hbn5, hbx5, h15, h25, hz5', ss5, hR5⟩
  intros
  refine cond_dec (fun hlt => ?_) (fun hge => ?_)
  · have hv2 : v < 2 := by omega
    refine ⟨IN d fun c w' => Ext w w' ∧ w1.heap.size ≤ w'.heap.size ∧ Box w' pn T.t_i_Network [x.v, (⟨none, 0, 0⟩ : Sl).v, z.v] ∧ Box w' px T.t_i_Network [.slice none 0 0, .slice none 0 0, .slice none 0 0] ∧ Box w' p1 t1 [.int .i64 (i : Int)] ∧ Box w' p2 t2 [.int .i64 (j : Int)] ∧ OwnL w' w1.heap.size T.t_int z (List.replicate 2 (0 : Int)) ∧ ∃ ss, RowsD w' w1.heap.size T.t_i_End T.t_sl_i_End x (failAB d i j (if v = 0 then c else d) (if v = 0 then 0 else c)) ss, MN d, IN_zero ⟨hE5, hz5, hbn5, hbx5, h15, h25, hz5', ss5, ?_⟩, ?_⟩
    · have e : failAB d i j (if v = 0 then 0 else d) (if v = 0 then 0 else 0) = failAB d i j (if 0 < v then d else 0) (if 1 < v then d else 0) := by
        by_cases h0 : v = 0
        · subst h0; rfl
        · rw [if_neg h0, if_neg h0, if_pos (by omega), if_neg (by omega)]
      rw [e]
      exact hR5
    · rintro _ w6 ⟨c, rfl, hc, hE6, hz6, hbn6, hbx6, h16, h26, hz6', ss6, hR6⟩
      intros
      refine cond_dec (fun hlt2 => ?_) (fun hge2 => ?_)
      · have hc' : c < d := by omega
        intro w7 hE7 _
        have hsl := hR6.len
        rw [ab_len] at hsl
        obtain ⟨r, hr⟩ : ∃ r, ss6[v]? = some r := ⟨_, List.getElem?_eq_getElem (by omega)⟩
        obtain ⟨l, hl, hset, hll⟩ : ∃ l, (failAB d i j (if v = 0 then c else d) (if v = 0 then 0 else c))[v]? = some l ∧ (failAB d i j (if v = 0 then c else d) (if v = 0 then 0 else c)).set v (l ++ [(1 - (v : Int), ((swapP i j c : Nat) : Int))]) = failAB d i j (if v = 0 then c + 1 else d) (if v = 0 then 0 else c + 1) ∧ l.length ≤ 100 := by
          by_cases h0 : v = 0
          · subst h0
            refine ⟨_, (failAB_0 hc').1, (failAB_0 hc').2, ?_⟩
            rw [List.length_take, failRow_len]; omega
          · have h01 : v = 1 := by omega
            subst h01
            refine ⟨_, (failAB_1 hc').1, (failAB_1 hc').2, ?_⟩
            rw [List.length_take, failRow_len]; omega
        replace hE6 := hE6.ext hE7
        replace hbn6 := hbn6.ext hE7
        replace hbx6 := hbx6.ext hE7
        replace h16 := h16.ext hE7
        replace h26 := h26.ext hE7
        replace hz6' := hz6'.ext hE7
        replace hR6 := hR6.ext hE7
        have hz7 := hE7.size_le
        have hO := hR6.row v r l hr hl
        have hxr := hbn6.notOwn hO (by decide)
        have hxs := hbn6.notOwn hR6.own (by decide)
        refine ⟨oB r, by rw [add_block]; exact hxr, LD_bs0 hbn6 ⟨by rw [add_block]; exact hxr, LD_bs0 hbn6 ?_⟩⟩
        refine hR6.ix (by rw [ab_len]; omega) fun q r1 hr1 _ hcq hbq => ⟨fun hh => hR6.block_ne (by decide) hr hh hbq, LD_sl hcq ?_⟩
        rw [hr] at hr1; cases hr1
        refine ⟨Chg.refl _ _, CALLV_mk (by kernel_rfl) ?_⟩
        refine call (failEnd_ok (k := c) h16 h26 (v := (v : Int)) (by omega)) ?_
        rintro _ _ w8 ⟨hE8, rfl, rfl⟩
        refine ⟨.of_ext hE8, ?_⟩
        have hsw := swap_lt hi hj hc'
        refine snocRowX hE8 (hR6.ext hE8) (by have := hE8.size_le; omega) hl hr hll ⟨by unfold I64; omega, by unfold I64; omega⟩ fun w9 r' hR9 hC9 => ?_
        rw [hset] at hR9
        have hbn8 := hbn6.ext hE8
        have hbx8 := hbx6.ext hE8
        have h18 := h16.ext hE8
        have h28 := h26.ext hE8
        have hO8 := hO.ext hE8
        have hR8 := hR6.ext hE8
        have hz8 := hz6'.ext hE8
        have hsz8 := hE8.size_le
        have hsz9 := hC9.size
        have lowB : ∀ {b : Nat}, b < w1.heap.size → ¬ (oB r b ∨ oB x b) := fun {b} hb hh => by
          rcases hh with hh | hh
          · have := (hO8.blk _ hh).1; omega
          · have := (hR8.own.blk _ hh).1; omega
        refine IN_next (by omega) hc' ⟨hC9.ext0 (hE6.trans hE8) fun b hh => ?_, by omega, hbn8.chg hC9 (fun hh => hh.elim hxr hxs), hbx8.chg hC9 (lowB hxlt), h18.chg hC9 (lowB ?_), h28.chg hC9 (lowB ?_), hz8.chg hC9 fun b hb hh => hh.elim (own_apart hz8 hO8 (by decide) b hb) (own_apart hz8 hR8.own (by decide) b hb), _, hR9⟩
        · rcases hh with hh | hh
          · have := (hO8.blk _ hh).1; omega
          · have := (hR8.own.blk _ hh).1; omega
        · exact h1lt
        · exact h2lt
      · have : c = d := by omega
        subst this
        refine IN_next (by omega) hv2 ⟨hE6, hz6, hbn6, hbx6, h16, h26, hz6', ss6, ?_⟩
        have e : failAB c i j (if v = 0 then c else c) (if v = 0 then 0 else c) = failAB c i j (if 0 < v + 1 then c else 0) (if 1 < v + 1 then c else 0) := by
          rw [if_pos (show 0 < v + 1 by omega)]
          by_cases h0 : v = 0
          · subst h0; rfl
          · rw [if_neg h0, if_neg h0, if_pos (by omega)]
        rw [← e]
        exact hR6
  · have : v = 2 := by omega
    subst this
    have hout := fail_out hi hj hd hR5 hz5'
    refine LD_box3 hbn5 ?_
    refine call (i_network_ok hout.net (by show ([] : List Int).length ≤ 1048576; simp)) ?_
    rintro x6 y6 z6 k w6 ⟨hE6, hk, hret⟩
    have hkt : k = true := hk.2 (fail_good hi hj hd)
    subst hkt
    obtain ⟨rfl, rfl, rfl⟩ := hret rfl
    refine ST_all (hbx5.ext hE6) (one3 _ _ _) rfl fun w7 hs7 hz7 hb7 => LD_box3 hb7 ?_
    have hz6 := hE6.size_le
    refine ⟨hs7.ext0 (hE5.trans hE6) fun b hb => by cases hb; omega, rfl, ?_⟩
    have h3 : OutN w1.heap.size w5.heap.size w7 _ _ _ _ := (hout.ext hE6).keep fun b hb1 hb2 hb3 => hs7.block b hb3 (by intro he; cases he; omega)
    obtain ⟨⟨ss, a1, a2⟩, a3, ⟨a4, a5⟩, a6, a7⟩ := h3
    exact ⟨⟨ss, a1.low hw1, fun b hb => by have := a2 b hb; omega⟩, a3, ⟨a4.low hw1, fun b hb => by have := a5 b hb; omega⟩, a6, a7⟩

end Go.Proofs.Ytndebacmnpghkaa
end

section
/- The network on which a fixed list is no solution: FailingNetwork, both sides. -/
namespace Go.Proofs.Ytndebacmnpghkaa
open Go.GX Go.RowKit
set_option maxRecDepth 100000

set_option maxHeartbeats 800000 in
theorem FailingNetwork_ok {w : World} {c d s : Sl} {p : Prob} {x : List Int} (h : RProb w c d p) (hx : R w s x) (hs : SmallP p) (hxl : x.length ≤ 1048576) :
    Calls Try.prog F.i_FailingNetwork #[.agg #[.int .i64 p.labels, .int .i64 p.degree, c.v, d.v], s.v] w (Ret [.agg [.sl, .sl, .sl], .at .bool] fun (X Y Z : Sl) (ok : Bool) w' => Ext w w' ∧ ∃ N, OutN w.heap.size w'.heap.size w' X Y Z N ∧ AnsG (FlAsked p x) (flNet p x) noNet N ok) := by
  refine C_i_FailingNetwork ?_
  unfold V_i_FailingNetwork
  refine NEW_intro fun pp w1 hp1 hs1 hE1 hb1 => NEW_intro fun px w2 hp2 hs2 hE2 hb2 => ?_
  have hE := hE1.trans hE2
  have hz1 := hE1.size_le
  replace h := h.ext hE
  replace hx := hx.ext hE
  replace hb1 := hb1.ext hE2
  have hno : ∀ {w' : World}, Ext w2 w' → ¬ FlAsked p x → GX.ST px 0 [.slice none 0 0, .slice none 0 0, .slice none 0 0] w' fun w'' => LD [.sl, .sl, .sl] px w'' fun (X : Sl) (Y : Sl) (Z : Sl) => Ext w w'' ∧ ∃ N, OutN w.heap.size w''.heap.size w'' X Y Z N ∧ AnsG (FlAsked p x) (flNet p x) noNet N false := fun hE' hn =>
    ST_all (hb2.ext hE') (vs := [(⟨none, 0, 0⟩ : Sl).v, (⟨none, 0, 0⟩ : Sl).v, (⟨none, 0, 0⟩ : Sl).v]) (one3 _ _ _) rfl fun w'' hs'' _ hb'' => LD_box3 hb'' ⟨hs''.ext0 (hE.trans hE') fun k hk => by cases hk; omega, noNet, OutN.none _ _ _, .no hn⟩
  refine LD_iiss hb1 ?_
  refine call (IsProblem_ok h) ?_
  rintro v w3 ⟨hv, hE3⟩
  refine cond_not (fun hf => hno hE3 fun hA => by rw [hv.2 hA.good] at hf; cases hf) (fun ht => LD_bi1 (hb1.ext hE3) ?_)
  have hg := hv.1 ht
  have hlab := hg.lab
  have hdeg := hg.deg
  rw [hx.len]
  refine cond_ne (fun hne => hno hE3 fun hA => hne hA.len) (fun heq => LD_iiss (hb1.ext hE3) ?_)
  have hlen : (x.length : Int) = p.degree := heq
  refine call (hasLabels_ok hlab (hx.ext hE3)) ?_
  rintro v2 w4 ⟨hv2, hE4⟩
  have hE24 := hE3.trans hE4
  refine cond_not (fun hf => hno hE24 fun hA => by rw [hv2.2 hA.labs] at hf; cases hf) (fun ht2 => LD_iiss (hb1.ext hE24) ?_)
  have hlb := hv2.1 ht2
  refine call (node_ok (h.ext hE24) hs hg (hx.ext hE24) (by omega)) ?_
  rintro v3 w5 ⟨hv3, hE5⟩
  have hE25 := hE24.trans hE5
  refine cond_not (fun hf => hno hE25 fun hA => by rw [hv3.2 hA.node] at hf; cases hf) (fun ht3 => ?_)
  have hnd := hv3.1 ht3
  unfold V_i_FailingNetwork_k1
  rw [hx.len]
  have h64 := flat_ok hx
  refine ⟨IN x.length fun i w' => Ext w2 w' ∧ ∀ u, u < i → ∀ v, v < x.length → edgeB p (x.getD u 0) (x.getD v 0) = true, MN x.length, IN_zero ⟨hE25, fun u hu => absurd hu (by omega)⟩, ?_⟩
  rintro _ w6 ⟨i, rfl, hi, hE6, hI⟩
  intros
  refine cond_dec (fun hlt => ?_) (fun hge => ?_)
  · have hi' : i < x.length := by omega
    refine NEW_ST (by intro v hv; simp at hv; subst hv; rfl) rfl fun pi w8 hpi hE8 hbi => LD_bi hbi ?_
    refine NEW_ST (by intro v hv; simp at hv; subst hv; rfl) rfl fun pj w10 hpj hE10 hbj => ?_
    have hz6 := hE6.size_le
    have hz8 := hE8.size_le
    have hE610 := hE6.trans (hE8.trans hE10)
    have hlow : ∀ v, v < i → edgeB p (x.getD i 0) (x.getD v 0) = true := fun v hv => by rw [edgeB_comm]; exact hI v hv i hi'
    refine ⟨fun (pj : Addr) w' => Ext w2 w' ∧ Box w' pi T.t_int [.int .i64 (i : Int)] ∧ ∃ j : Nat, i ≤ j ∧ j ≤ x.length ∧ Box w' pj T.t_int [.int .i64 (j : Int)] ∧ ∀ v, v < j → edgeB p (x.getD i 0) (x.getD v 0) = true, fun pj w' => match w'.cell? pj with | some (.int _ j) => x.length - j.toNat | _ => 0, ⟨hE610, hbi.ext hE10, i, Nat.le_refl _, by omega, hbj, hlow⟩, ?_⟩
    rintro j0 w16 ⟨hE16, hbi16, j, hij, hj, hbj16, hJ⟩
    intros
    refine LD_bi hbj16 ?_
    refine cond_dec (fun hlt2 => LD_iiss (hb1.ext hE16) (LD_bi hbi16 ?_)) (fun hge2 => ?_)
    · have hj' : j < x.length := by omega
      refine (hx.ext hE16).ixI hi' fun q hIi hci => LD_int hci (LD_bi hbj16 ?_)
      refine (hx.ext hE16).ixI hj' fun q2 hIj hcj => LD_int hcj ?_
      refine QCALL_bool (edgeB p x[i] x[j]) (fun w' hw' => call (edge_ok ((h.ext hE16).ext hw') hs hg hIi hIj) fun b w'' hb => ⟨by rw [Bool.eq_iff_iff, hb.1, edgeB_iff], hb.2⟩) ?_
      intro w17 hE17
      refine cond_b (fun ht4 => LD_bi (hbj16.ext hE17) ?_) (fun hf4 => LD_bi1 (hb1.ext (hE16.trans hE17)) ?_)
      · refine NEW_ST (by intro v hv; simp at hv; subst hv; rfl) rfl fun pk w21 hpk hE21 hbk => LD_bi hbk ?_
        refine ST_all hbk (vs := [.int .i64 (IntKind.i64.wrap ((j : Int) + 1))]) (by intro v hv; simp at hv; subst hv; rfl) rfl fun w22 hs22 hz22 hb22 => ?_
        rw [wrap_of (by omega) (by omega)] at hb22
        have e1 : ((j : Int) + 1) = ((j + 1 : Nat) : Int) := by omega
        rw [e1] at hb22
        have hlt22 : pk.block ≠ pi.block := by have := hbi16.lt; have := hE17.size_le; omega
        have hE22 : Ext w17 w22 := hs22.ext0 hE21 fun k hk => by cases hk; omega
        refine ⟨⟨(hE16.trans hE17).trans hE22, (hbi16.ext hE17).ext hE22, j + 1, by omega, hj', hb22, fun v hv => ?_⟩, ?_⟩
        · by_cases hvj : v = j
          · subst hvj; rw [get_at hi', get_at hj']; exact ht4
          · exact hJ v (by omega)
        · have c1 : w22.cell? pk = some (.int .i64 ((j + 1 : Nat) : Int)) := hb22.cell (i := 0) rfl
          have c2 : w16.cell? j0 = some (.int .i64 (j : Int)) := hbj16.cell (i := 0) rfl
          simp only [c1, c2, Int.toNat_natCast]
          omega
      · have hbd : badIx p x = some (i, j) := badIx_hit hi' hj' hI hJ (by rw [get_at hi', get_at hj']; exact hf4)
        have hE217 := hE16.trans hE17
        rw [← hlen]
        refine call (wired_ok (d := x.length) (hbi16.ext hE17) (hbj16.ext hE17) hi' hj' (by omega)) ?_
        rintro X Y Z ok w18 ⟨hE18, rfl, hO⟩
        have hE218 := hE217.trans hE18
        have hpx := (hb2.ext hE218)
        have hlt2 := hb2.lt
        have hz17 := hE217.size_le
        refine ST_all hpx (one3 _ _ _) rfl fun w19 hs19 hz19 hb19 => LD_box3 hb19 ?_
        have hN : flNet p x = failNet x.length i j := by unfold flNet; rw [hbd]
        refine ⟨hs19.ext0 (hE.trans hE218) fun k hk => by cases hk; omega, failNet x.length i j, ?_, ?_⟩
        · have h3 : OutN w17.heap.size w18.heap.size w19 X Y Z (failNet x.length i j) := hO.keep fun b hb1 hb2 hb3 => hs19.block b hb3 (by intro he; cases he; omega)
          obtain ⟨⟨ss, a1, a2⟩, a3, ⟨a4, a5⟩, a6, a7⟩ := h3
          have hle : w.heap.size ≤ w17.heap.size := by have := hE.size_le; omega
          exact ⟨⟨ss, a1.low hle, fun b hb => by have := a2 b hb; omega⟩, a3, ⟨a4.low hle, fun b hb => by have := a5 b hb; omega⟩, a6, a7⟩
        · rw [← hN]
          exact .yes ⟨hg, hlen, hlb, hnd, _, hbd⟩
    · have : j = x.length := by omega
      subst this
      refine IN_next hx.le hi' ⟨hE16, fun u hu v hv => ?_⟩
      by_cases hui : u = i
      · subst hui; exact hJ v hv
      · exact hI u (by omega) v hv
  · have : i = x.length := by omega
    subst this
    exact hno hE6 fun hA => by
      obtain ⟨q, hq⟩ := hA.bad
      rw [badIx_no hI] at hq
      cases hq

set_option maxHeartbeats 800000 in
theorem sFailingNetwork_ok {w : World} {c d s : Sl} {p : Prob} {x : List Int} (h : RProb w c d p) (hx : R w s x) :
    Calls Try.prog F.s_FailingNetwork #[.agg #[.int .i64 p.labels, .int .i64 p.degree, c.v, d.v], s.v] w (Ret [.agg [.sl, .sl, .sl], .at .bool] fun (X Y Z : Sl) (ok : Bool) w' => Ext w w' ∧ ∃ N, RNet w' X Y Z N ∧ AnsG (FlAsked p x) (flNet p x) noNet N ok) := by
  refine C_s_FailingNetwork ?_
  unfold V_s_FailingNetwork
  refine NEW_intro fun pp w1 hp1 hs1 hE1 hb1 => NEW_intro fun px w2 hp2 hs2 hE2 hb2 => ?_
  have hE := hE1.trans hE2
  have hz1 := hE1.size_le
  replace h := h.ext hE
  replace hx := hx.ext hE
  replace hb1 := hb1.ext hE2
  have hno : ∀ {w' : World}, Ext w2 w' → ¬ FlAsked p x → GX.ST px 0 [.slice none 0 0, .slice none 0 0, .slice none 0 0] w' fun w'' => LD [.sl, .sl, .sl] px w'' fun (X : Sl) (Y : Sl) (Z : Sl) => Ext w w'' ∧ ∃ N, RNet w'' X Y Z N ∧ AnsG (FlAsked p x) (flNet p x) noNet N false := fun hE' hn =>
    ST_all (hb2.ext hE') (vs := [(⟨none, 0, 0⟩ : Sl).v, (⟨none, 0, 0⟩ : Sl).v, (⟨none, 0, 0⟩ : Sl).v]) (one3 _ _ _) rfl fun w'' hs'' _ hb'' => LD_box3 hb'' ⟨hs''.ext0 (hE.trans hE') fun k hk => by cases hk; omega, noNet, (OutN.none 0 0 _).net, .no hn⟩
  refine LD_iiss hb1 ?_
  refine call (prGood_ok h) ?_
  rintro v w3 ⟨hv, hE3⟩
  refine cond_not (fun hf => hno hE3 fun hA => by rw [hv.2 hA.good] at hf; cases hf) (fun ht => LD_bi1 (hb1.ext hE3) ?_)
  have hg := hv.1 ht
  have hlab := hg.lab
  have hdeg := hg.deg
  rw [hx.len]
  refine cond_ne (fun hne => hno hE3 fun hA => hne hA.len) (fun heq => LD_bi0 (hb1.ext hE3) ?_)
  have hlen : (x.length : Int) = p.degree := heq
  rw [wrap_of (by omega) (by omega)]
  refine call (l1All_ok (hx.ext hE3) _ _) ?_
  rintro v2 _ ⟨hv2, rfl⟩
  refine cond_not (fun hf => hno hE3 fun hA => by rw [hv2.2 hA.labs] at hf; cases hf) (fun ht2 => LD_iiss (hb1.ext hE3) ?_)
  have hlb := hv2.1 ht2
  refine call (prNode_ok (h.ext hE3) (hx.ext hE3) (by omega)) ?_
  rintro v3 w5 ⟨hv3, hE5⟩
  have hE25 := hE3.trans hE5
  refine cond_not (fun hf => hno hE25 fun hA => by rw [hv3.2 hA.node] at hf; cases hf) (fun ht3 => ?_)
  have hnd := hv3.1 ht3
  unfold V_s_FailingNetwork_k1
  refine LD_iiss (hb1.ext hE25) ?_
  refine call (zeBad_ok (h.ext hE25) (hx.ext hE25) (hx.ext hE25)) ?_
  rintro i0 j0 b w6 ⟨hE6, hr⟩
  have hE26 := hE25.trans hE6
  cases hq : badIx p x with
  | none =>
    rw [hq] at hr
    simp only at hr
    subst hr
    refine cond_not (fun _ => hno hE26 fun hA => ?_) (fun ht => by cases ht)
    obtain ⟨q, hq'⟩ := hA.bad
    rw [hq] at hq'
    cases hq'
  | some q =>
    rw [hq] at hr
    simp only at hr
    obtain ⟨rfl, rfl, rfl⟩ := hr
    obtain ⟨i, j⟩ := q
    obtain ⟨hi, hj⟩ := badIx_some hq
    have hA : FlAsked p x := ⟨hg, hlen, hlb, hnd, _, hq⟩
    have hN : flNet p x = failNet x.length i j := by unfold flNet; rw [hq]
    refine cond_not (fun hf => by cases hf) (fun _ => ?_)
    refine call (neEmpty_ok (k := 2) (by omega) w6) ?_
    rintro X Y Z w7 ⟨hE7, hX, rfl, hZ⟩
    refine NEW_ST (one3 _ _ _) rfl fun pn w9 hpn hE9 hbn => ?_
    have hE29 := (hE26.trans hE7).trans hE9
    replace hX := hX.ext hE9
    replace hZ := hZ.ext hE9
    have hR0 : RowsD w9 w6.heap.size T.t_i_End T.t_sl_i_End X (failAB x.length i j 0 0) (List.replicate 2 ⟨none, 0, 0⟩) := rows_blank hX
    have hz7 := hE7.size_le
    have hz9 := hE9.size_le
    have hz26 := hE26.size_le
    rw [hx.len]
    refine ⟨IN x.length fun c w' => Ext w2 w' ∧ w6.heap.size ≤ w'.heap.size ∧ Box w' pn T.t_i_Network [X.v, (⟨none, 0, 0⟩ : Sl).v, Z.v] ∧ OwnL w' w6.heap.size T.t_int Z (List.replicate 2 (0 : Int)) ∧ ∃ ss, RowsD w' w6.heap.size T.t_i_End T.t_sl_i_End X (failAB x.length i j c c) ss, MN x.length, IN_zero ⟨hE29, by omega, hbn, hZ, _, hR0⟩, ?_⟩
    rintro _ w10 ⟨c, rfl, hc, hE10, hz10, hbn10, hZ10, ss, hR10⟩
    intros
    refine cond_dec (fun hlt => ?_) (fun hge => ?_)
    · have hc' : c < x.length := by omega
      have hsw := swap_lt hi hj hc'
      have hk7 : ∀ y : Int, y = ((swapP i j c : Nat) : Int) → V_s_FailingNetwork_k7 (IN x.length fun c w' => Ext w2 w' ∧ w6.heap.size ≤ w'.heap.size ∧ Box w' pn T.t_i_Network [X.v, (⟨none, 0, 0⟩ : Sl).v, Z.v] ∧ OwnL w' w6.heap.size T.t_int Z (List.replicate 2 (0 : Int)) ∧ ∃ ss, RowsD w' w6.heap.size T.t_i_End T.t_sl_i_End X (failAB x.length i j c c) ss) (MN x.length) (c : Int) w10 pn y w10 := fun y hy => by
        subst hy
        unfold V_s_FailingNetwork_k7
        intro w18 hE18 _
        have hsl := hR10.len
        rw [ab_len] at hsl
        obtain ⟨r, hr⟩ : ∃ r, ss[0]? = some r := ⟨_, List.getElem?_eq_getElem (by omega)⟩
        have hl := (failAB_0 (i := i) (j := j) (b := c) hc').1
        have hset := (failAB_0 (i := i) (j := j) (b := c) hc').2
        replace hE10 := hE10.ext hE18
        replace hbn10 := hbn10.ext hE18
        replace hZ10 := hZ10.ext hE18
        replace hR10 := hR10.ext hE18
        have hz18 := hE18.size_le
        have hO := hR10.row 0 r _ hr hl
        have hxr := hbn10.notOwn hO (by decide)
        have hxs := hbn10.notOwn hR10.own (by decide)
        refine ⟨oB r, by rw [add_block]; exact hxr, LD_bs0 hbn10 ⟨by rw [add_block]; exact hxr, LD_bs0 hbn10 ?_⟩⟩
        refine hR10.ix (i := 0) (by rw [ab_len]; omega) fun q r1 hr1 _ hcq hbq => ⟨fun hh => hR10.block_ne (by decide) hr hh hbq, LD_sl hcq ?_⟩
        rw [hr] at hr1; cases hr1
        refine ⟨Chg.refl _ _, Chg.refl _ _, ?_⟩
        refine snocRowX (Ext.refl _) hR10 (by omega) hl hr (by rw [List.length_take, failRow_len]; omega) ⟨by unfold I64; omega, by unfold I64; omega⟩ fun w21 r' hR21 hC21 => ?_
        rw [hset] at hR21
        have hz21 := hC21.size
        have hbn21 := hbn10.chg hC21 (fun hh => hh.elim hxr hxs)
        have hE21 : Ext w2 w21 := hC21.ext0 hE10 fun b hh => by
          rcases hh with hh | hh
          · have := (hO.blk _ hh).1; omega
          · have := (hR10.own.blk _ hh).1; omega
        have hZ21 := hZ10.chg hC21 fun b hb hh => hh.elim (own_apart hZ10 hO (by decide) b hb) (own_apart hZ10 hR10.own (by decide) b hb)
        intro w22 hE22 _
        obtain ⟨q1, hq1⟩ : ∃ q1, (ss.set 0 r')[1]? = some q1 := ⟨_, List.getElem?_eq_getElem (by rw [List.length_set]; omega)⟩
        have hl2 := (failAB_1 (i := i) (j := j) (a := c + 1) hc').1
        have hset2 := (failAB_1 (i := i) (j := j) (a := c + 1) hc').2
        replace hE21 := hE21.ext hE22
        replace hbn21 := hbn21.ext hE22
        replace hZ21 := hZ21.ext hE22
        replace hR21 := hR21.ext hE22
        have hz22 := hE22.size_le
        have hO2 := hR21.row 1 q1 _ hq1 hl2
        have hxr2 := hbn21.notOwn hO2 (by decide)
        have hxs2 := hbn21.notOwn hR21.own (by decide)
        refine ⟨oB q1, by rw [add_block]; exact hxr2, LD_bs0 hbn21 ⟨by rw [add_block]; exact hxr2, LD_bs0 hbn21 ?_⟩⟩
        refine hR21.ix (i := 1) (by rw [ab_len]; omega) fun q r2 hr2 _ hcq hbq => ⟨fun hh => hR21.block_ne (by decide) hq1 hh hbq, LD_sl hcq ?_⟩
        rw [hq1] at hr2; cases hr2
        refine ⟨Chg.refl _ _, Chg.refl _ _, ?_⟩
        refine snocRowX (Ext.refl _) hR21 (by omega) hl2 hq1 (by rw [List.length_take, failRow_len]; omega) ⟨by unfold I64; omega, by unfold I64; omega⟩ fun w25 r'' hR25 hC25 => ?_
        rw [hset2] at hR25
        have hz25 := hC25.size
        refine IN_next hx.le hc' ⟨hC25.ext0 hE21 fun b hh => ?_, by omega, hbn21.chg hC25 (fun hh => hh.elim hxr2 hxs2), hZ21.chg hC25 fun b hb hh => hh.elim (own_apart hZ21 hO2 (by decide) b hb) (own_apart hZ21 hR21.own (by decide) b hb), _, hR25⟩
        rcases hh with hh | hh
        · have := (hO2.blk _ hh).1; omega
        · have := (hR21.own.blk _ hh).1; omega
      refine cond_eq (fun he => hk7 _ ?_) (fun hne => cond_eq (fun he2 => hk7 _ ?_) (fun hne2 => hk7 _ ?_))
      · have : c = i := by have : (c : Int) = (i : Int) := he; omega
        unfold swapP
        rw [if_pos this]
      · have h1 : c ≠ i := fun e => hne (by rw [e])
        have : c = j := by have : (c : Int) = (j : Int) := he2; omega
        unfold swapP
        rw [if_neg h1, if_pos this]
      · have h1 : c ≠ i := fun e => hne (by rw [e])
        have h2 : c ≠ j := fun e => hne2 (by rw [e])
        unfold swapP
        rw [if_neg h1, if_neg h2]
    · have : c = x.length := by omega
      subst this
      have hout := fail_out hi hj (by omega) hR10 hZ10
      refine LD_box3 hbn10 ?_
      refine ST_all (hb2.ext hE10) (one3 _ _ _) rfl fun w11 hs11 hz11 hb11 => LD_box3 hb11 ?_
      have hlt2 := hb2.lt
      refine ⟨hs11.ext0 (hE.trans hE10) fun k hk => by cases hk; omega, failNet x.length i j, ?_, by rw [← hN]; exact .yes hA⟩
      have h3 : OutN w6.heap.size w10.heap.size w11 _ _ _ _ := hout.keep fun b hb1 hb2 hb3 => hs11.block b hb3 (by intro he; cases he; omega)
      exact h3.net

end Go.Proofs.Ytndebacmnpghkaa
end

section
/- The walk of the law FnExactFailingNetwork. -/
namespace Go.Proofs.Ytndebacmnpghkaa
open Go.GX Go.RowKit
set_option maxRecDepth 100000
set_option maxHeartbeats 800000

theorem fnExactFailingNetwork_ok {w : World} {c0 e0 : Sl} {q0 : Prob} {s1 : Sl} {l1 : List Int} (h0 : RProb w c0 e0 q0) (h1 : R w s1 l1) :
    Calls Try.prog F.l_FnExactFailingNetwork #[.agg #[.int .i64 q0.labels, .int .i64 q0.degree, c0.v, e0.v], s1.v] w (Ret [.at .bool] fun (x : Bool) w' => x = true ∧ Ext w w') := by
  refine C_l_FnExactFailingNetwork ?_
  unfold V_l_FnExactFailingNetwork
  refine NEW_intro fun p0 u0 hp0 hs0 hA0 hb0 => ?_
  have hE := hA0
  replace h0 := h0.ext hA0
  replace h1 := h1.ext hA0
  rw [h1.len]
  refine cond_dec (fun _ => ⟨rfl, hE⟩) (fun hm1 => ?_)
  have hm1' : l1.length ≤ 1048576 := by omega
  refine LD_iiss hb0 ?_
  refine call (szProblem_ok h0 1048576 (by omega) (by omega)) ?_
  rintro z0 x0 ⟨hz0, hB0⟩
  replace hE := hE.ext hB0
  replace h0 := h0.ext hB0
  replace h1 := h1.ext hB0
  replace hb0 := hb0.ext hB0
  refine cond_dec (fun _ => ⟨rfl, hE⟩) (fun hzl0 => ?_)
  have hS0 := (hz0 (by omega)).1
  have hzz0 := (hz0 (by omega)).2
  refine LD_iiss hb0 ?_
  refine call (toProblem_ok h0 hS0) ?_
  rintro _ _ zs0 us0 ws0 ⟨rfl, rfl, hEs0, hNs0⟩
  replace hE := hE.ext hEs0
  replace h0 := h0.ext hEs0
  replace h1 := h1.ext hEs0
  replace hb0 := hb0.ext hEs0
  refine call (toIntS_ok h1 hm1') ?_
  rintro ss1 ws1 ⟨hEs1, hOs1⟩
  replace hE := hE.ext hEs1
  replace h0 := h0.ext hEs1
  replace h1 := h1.ext hEs1
  replace hb0 := hb0.ext hEs1
  replace hNs0 := hNs0.ext hEs1
  have hRs1 := (hOs1.rep (flat_ok h1)).any
  refine call (sFailingNetwork_ok hNs0 hRs1) ?_
  rintro xS yS zS okS wA ⟨hCA, N1, hP1, hA1⟩
  replace hE := hE.ext hCA
  replace h0 := h0.ext hCA
  replace h1 := h1.ext hCA
  replace hb0 := hb0.ext hCA
  refine NEW_ST (one3 _ _ _) rfl fun pS w6 hpS hES hcS => ?_
  replace hE := hE.ext hES
  replace h0 := h0.ext hES
  replace h1 := h1.ext hES
  replace hb0 := hb0.ext hES
  replace hP1 := hP1.ext hES
  have hX := Ext.refl w6
  refine LD_iiss (hb0.ext hX) ?_
  have hlo0 := hX.size_le
  refine call (toProblem_own (h0.ext hX) hS0) ?_
  rintro _ _ zi0 ui0 wi0 ⟨rfl, rfl, hEi0, mid0, top0, hOP0⟩
  have hls0 := hEi0.size_le
  replace hX := hX.ext hEi0
  have hM0 := hOP0.mnodes
  have hMe0 := hOP0.medges
  have hlm0 := hOP0.lom
  have hmt0 := hOP0.mhi
  have htw0 := hOP0.top
  have hNi0 := hOP0.prob h0
  have hH0 := Ext.refl wi0
  refine NEW_ST (one4p _ _ _ _) rfl fun yi0 vi0 hqi0 hFi0 hc0 => ?_
  replace hX := hX.ext hFi0
  replace hM0 := hM0.ext hFi0
  replace hMe0 := hMe0.ext hFi0
  replace hNi0 := hNi0.ext hFi0
  replace hH0 := hH0.ext hFi0
  have hlp1_0 := hH0.size_le
  have hlo1 := hX.size_le
  refine call (toIntS_ok (h1.ext hX) hm1') ?_
  rintro si1 wi1 ⟨hEi1, hOi1⟩
  have hls1 := hEi1.size_le
  replace hX := hX.ext hEi1
  replace hM0 := hM0.ext hEi1
  replace hMe0 := hMe0.ext hEi1
  replace hNi0 := hNi0.ext hEi1
  replace hH0 := hH0.ext hEi1
  replace hc0 := hc0.ext hEi1
  have hRi1 := (hOi1.rep (flat_ok h1)).any
  have hM1 := mint_of hOi1 hm1'
  have hH1 := Ext.refl wi1
  refine LD_iiss hc0 ?_
  have hhi0 := hH0.size_le
  have hhi1 := hH1.size_le
  have hXD := hX.size_le
  refine call (FailingNetwork_ok hNi0 hRi1 hS0 hm1') ?_
  rintro xI yI zI okI wE ⟨hCE, N2, hG, hA2⟩
  replace hX := hX.ext hCE
  replace hM0 := hM0.ext hCE
  replace hMe0 := hMe0.ext hCE
  replace hNi0 := hNi0.ext hCE
  replace hH0 := hH0.ext hCE
  replace hc0 := hc0.ext hCE
  replace hRi1 := hRi1.ext hCE
  replace hM1 := hM1.ext hCE
  replace hH1 := hH1.ext hCE
  obtain ⟨rfl, rfl⟩ := hA1.eq hA2
  have hzE := hCE.size_le
  refine NEW_ST (one3 _ _ _) rfl fun pI w12 hpI hEI hcI => ?_
  replace hX := hX.ext hEI
  replace hM0 := hM0.ext hEI
  replace hMe0 := hMe0.ext hEI
  replace hNi0 := hNi0.ext hEI
  replace hH0 := hH0.ext hEI
  replace hc0 := hc0.ext hEI
  replace hRi1 := hRi1.ext hEI
  replace hM1 := hM1.ext hEI
  replace hH1 := hH1.ext hEI
  replace hG := hG.ext hEI
  refine LD_box3 hcI (LD_box3 (hcS.ext hX) ?_)
  refine call (eqNetwork_ok hG.net (hP1.ext hX)) ?_
  rintro _ we1 ⟨rfl, hK⟩
  replace hX := hX.ext hK
  replace hM0 := hM0.ext hK
  replace hMe0 := hMe0.ext hK
  replace hNi0 := hNi0.ext hK
  replace hH0 := hH0.ext hK
  replace hc0 := hc0.ext hK
  replace hRi1 := hRi1.ext hK
  replace hM1 := hM1.ext hK
  replace hH1 := hH1.ext hK
  replace hG := hG.ext hK
  replace hcI := hcI.ext hK
  refine cond_f (by simp) ?_
  refine cond_f (by simp) ?_
  unfold V_l_FnExactFailingNetwork_k3
  intro m0 hG0 _
  replace hX := hX.ext hG0
  replace hM0 := hM0.ext hG0
  replace hMe0 := hMe0.ext hG0
  replace hNi0 := hNi0.ext hG0
  replace hH0 := hH0.ext hG0
  replace hc0 := hc0.ext hG0
  replace hRi1 := hRi1.ext hG0
  replace hM1 := hM1.ext hG0
  replace hH1 := hH1.ext hG0
  replace hG := hG.ext hG0
  replace hcI := hcI.ext hG0
  refine LD_iiss hc0 (LD_iiss (hb0.ext hX) ?_)
  refine ⟨Ext.refl _, call (toProblem_ok (h0.ext hX) hS0) ?_⟩
  rintro _ _ ze0 ue0 we0' ⟨rfl, rfl, hHe0, hNe0⟩
  replace hX := hX.ext hHe0
  replace hM0 := hM0.ext hHe0
  replace hMe0 := hMe0.ext hHe0
  replace hNi0 := hNi0.ext hHe0
  replace hH0 := hH0.ext hHe0
  replace hc0 := hc0.ext hHe0
  replace hRi1 := hRi1.ext hHe0
  replace hM1 := hM1.ext hHe0
  replace hH1 := hH1.ext hHe0
  replace hG := hG.ext hHe0
  replace hcI := hcI.ext hHe0
  refine ⟨hHe0, call (eqProblem_ok hNi0 hNe0) ?_⟩
  rintro _ wf0 ⟨rfl, hK0⟩
  replace hX := hX.ext hK0
  replace hM0 := hM0.ext hK0
  replace hMe0 := hMe0.ext hK0
  replace hNi0 := hNi0.ext hK0
  replace hH0 := hH0.ext hK0
  replace hc0 := hc0.ext hK0
  replace hRi1 := hRi1.ext hK0
  replace hM1 := hM1.ext hK0
  replace hH1 := hH1.ext hK0
  replace hG := hG.ext hK0
  replace hcI := hcI.ext hK0
  refine ⟨hHe0.trans hK0, cond_f (by simp) ?_⟩
  refine call (toIntS_ok (h1.ext hX) hm1') ?_
  rintro se1 we1' ⟨hHe1, hOe1⟩
  replace hX := hX.ext hHe1
  replace hM0 := hM0.ext hHe1
  replace hMe0 := hMe0.ext hHe1
  replace hNi0 := hNi0.ext hHe1
  replace hH0 := hH0.ext hHe1
  replace hc0 := hc0.ext hHe1
  replace hRi1 := hRi1.ext hHe1
  replace hM1 := hM1.ext hHe1
  replace hH1 := hH1.ext hHe1
  replace hG := hG.ext hHe1
  replace hcI := hcI.ext hHe1
  refine call (eqIntS_ok hRi1 (hOe1.rep (flat_ok h1)).any) ?_
  rintro _ wf1 ⟨rfl, hK1⟩
  replace hX := hX.ext hK1
  replace hM0 := hM0.ext hK1
  replace hMe0 := hMe0.ext hK1
  replace hNi0 := hNi0.ext hK1
  replace hH0 := hH0.ext hK1
  replace hc0 := hc0.ext hK1
  replace hRi1 := hRi1.ext hK1
  replace hM1 := hM1.ext hK1
  replace hH1 := hH1.ext hK1
  replace hG := hG.ext hK1
  replace hcI := hcI.ext hK1
  refine cond_f (by simp) ?_
  refine LD_iiss hc0 ?_
  refine call (markProblem_ok hM0 hMe0 hlm0 hmt0 (by have := hH0.size_le; omega) _ (by omega) (by omega)) ?_
  rintro k0 wm0 ⟨hk0, hkk0, hSh, hCh⟩
  have hzk0 := hCh.size
  replace hX := hCh.extR hX (by omega)
  replace hG := hG.chgR hCh (by omega)
  replace hcI := hcI.chg hCh (by omega)
  replace hM1 := hM1.shp hSh
  refine call (markIntS_wr hM1.wr _ (by omega) (by omega) hM1.len) ?_
  rintro k1 wm1 ⟨hk1, hSh, hCh⟩
  have hml1 := hM1.len
  replace hCh := hCh.mono hM1.blk
  have hzk1 := hCh.size
  replace hX := hCh.extR hX (by omega)
  replace hG := hG.chgR hCh (by omega)
  replace hcI := hcI.chg hCh (by omega)
  refine cond_df (by omega) ?_
  refine LD_box3 hcI (LD_box3 (hcS.ext hX) ?_)
  refine call (eqNetwork_ok hG.net (hP1.ext hX)) ?_
  rintro _ we2 ⟨rfl, hK⟩
  replace hX := hX.ext hK
  replace hG := hG.ext hK
  replace hcI := hcI.ext hK
  refine cond_f (by simp) ?_
  refine cond_f (by simp) ?_
  unfold V_l_FnExactFailingNetwork_k7
  refine LD_box3 hcI ?_
  refine call (markN_out hG (by have := hcI.lt; omega)) ?_
  rintro mk wg ⟨hmk, hMk, hSt⟩
  replace hX := hSt.extR hX (by omega)
  replace hcI := hcI.chg hSt (by omega)
  refine LD_box3 hcI ?_
  refine call (heldN_ok hMk) ?_
  rintro _ wh ⟨rfl, hK3⟩
  replace hX := hX.ext hK3
  replace hMk := hMk.ext hK3
  replace hcI := hcI.ext hK3
  refine cond_df (by omega) ?_
  refine cond_f (by simp) ?_
  refine LD_iiss (hb0.ext hX) ?_
  refine call (toProblem_ok (h0.ext hX) hS0) ?_
  rintro _ _ zj0 uj0 wj0 ⟨rfl, rfl, hEj0, hNj0⟩
  replace hX := hX.ext hEj0
  replace hMk := hMk.ext hEj0
  replace hcI := hcI.ext hEj0
  refine call (toIntS_ok (h1.ext hX) hm1') ?_
  rintro sj1 wj1 ⟨hEj1, hOj1⟩
  replace hX := hX.ext hEj1
  replace hMk := hMk.ext hEj1
  replace hNj0 := hNj0.ext hEj1
  replace hcI := hcI.ext hEj1
  have hRj1 := (hOj1.rep (flat_ok h1)).any
  refine call (FailingNetwork_ok hNj0 hRj1 hS0 hm1') ?_
  rintro xL yL zL okL wL ⟨hCL, N3, hGL, hA3⟩
  replace hX := hX.ext hCL
  replace hMk := hMk.ext hCL
  replace hcI := hcI.ext hCL
  obtain ⟨rfl, rfl⟩ := hA1.eq hA3
  refine NEW_ST (one3 _ _ _) rfl fun pL w26 hpL hEL hcL => ?_
  replace hX := hX.ext hEL
  replace hMk := hMk.ext hEL
  replace hcI := hcI.ext hEL
  replace hGL := hGL.ext hEL
  refine LD_box3 hcL (LD_box3 (hcS.ext hX) ?_)
  refine call (eqNetwork_ok hGL.net (hP1.ext hX)) ?_
  rintro _ we3 ⟨rfl, hK4⟩
  replace hX := hX.ext hK4
  replace hMk := hMk.ext hK4
  replace hcI := hcI.ext hK4
  refine cond_f (by simp) ?_
  refine cond_f (by simp) ?_
  refine LD_box3 hcI ?_
  refine call (heldN_ok hMk) ?_
  rintro _ wz ⟨rfl, hK5⟩
  replace hX := hX.ext hK5
  refine cond_df (by omega) ?_
  refine cond_f (by simp) ?_
  exact ⟨rfl, hE.trans hX⟩

end Go.Proofs.Ytndebacmnpghkaa
end

section
/- Facts of this seat's program that every claim's last step asks for, each computed once (together they need more memory than a text may use). -/
namespace Go.Proofs.Ytndebacmnpghkaa


theorem door_enters : Try.pinned.checked.prog.mayEnter = true := by kernel_rfl

theorem door_lifts : Try.pinned.checked.prog.liftsFinal = false := by kernel_rfl

theorem door_heard : Try.pinned.checked.prog.stopsHeard = true := by kernel_rfl

theorem door_laid : laidOutB Try.pinned.checked.prog = true := by kernel_rfl

theorem door_maps : mapsRowed Try.pinned.checked.prog = true := by kernel_rfl

end Go.Proofs.Ytndebacmnpghkaa
end
