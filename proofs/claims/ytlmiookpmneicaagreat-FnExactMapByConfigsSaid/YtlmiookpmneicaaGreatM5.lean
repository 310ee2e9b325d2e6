/- Own texts, merged: ConfRows, MapByConfigsWalk, Door. -/
import Derived.Test.YtlmiookpmneicaaGreatM4
import Derived.Test.YtlmiookpmneicaaGreatRows
import Derived.KernelRfl
import Derived.JoinedOf
section
/- The labelings that configuration maps make, both sides. -/
namespace Go.Proofs.YtlmiookpmneicaaGreat
open Go.GX Go.RowKit
set_option maxRecDepth 100000

theorem upTo_rise (n : Nat) : (upTo n).Pairwise (· < ·) := by
  unfold upTo
  rw [List.pairwise_map]
  exact List.pairwise_lt_range.imp fun h => by omega

theorem mem_upto {n : Nat} {x : Int} : x ∈ upTo n ↔ ∃ u : Nat, x = u ∧ u < n := by
  unfold upTo
  rw [List.mem_map]
  constructor
  · rintro ⟨u, hu, rfl⟩; exact ⟨u, rfl, List.mem_range.1 hu⟩
  · rintro ⟨u, rfl, hu⟩; exact ⟨u, List.mem_range.2 hu, rfl⟩

theorem keyOf_get {l : List Int} {v : Nat} (hv : v < l.length) : keyOf l (v : Int) = l[v] := by simp [keyOf, hv]

theorem image_done {l ports row m : List Int} (hp : ports.Perm (upTo l.length)) (hs : ports.Pairwise (ltK (keyOf l))) (hm : m.length = l.length) (hset : ∀ k (hk : k < ports.length), m.getD ports[k].toNat 0 = row.getD k 0) :
    m = (List.range l.length).map fun i => row.getD (placeOf l i) 0 := by
  apply List.ext_getElem (by simp [hm])
  intro i h1 h2
  have hi : i < l.length := by omega
  have hmem : (i : Int) ∈ ports := hp.mem_iff.2 (mem_upto.2 ⟨i, rfl, hi⟩)
  obtain ⟨k, hk, hke⟩ := List.mem_iff_getElem.1 hmem
  have h3 := hset k hk
  rw [hke] at h3
  have h4 := place_ports hp hs hk hke
  simp only [List.getElem_map, List.getElem_range, h4]
  rw [← h3]
  simp [h1]

theorem mcLess_ok {l : List Int} {w0 : World} {s : Sl} {p : Addr} {t : TypeId} {D : Nat → Prop} (hl : SlR (fun b => ¬ D b) w0 s l) (hb : Box w0 p t [s.v]) (hpD : ¬ D p.block) (h40 : ∀ x ∈ l, 0 ≤ x ∧ x ≤ 1000) :
    ∀ x ∈ upTo l.length, ∀ y ∈ upTo l.length, ∀ w', Chg w0 w' D → CALLV Tryz.prog (.func (.func F.i_MapByConfigs_1) #[] #[.pointer (some p)]) #[.int .i64 x, .int .i64 y] w' (Ret [.at (.int .i64)] fun (r : Int) w'' => (r < 0 ↔ keyOf l x < keyOf l y) ∧ Ext w' w'') := by
  intro x hx y hy w' hC
  obtain ⟨u, rfl, hu⟩ := mem_upto.1 hx
  obtain ⟨v, rfl, hv⟩ := mem_upto.1 hy
  have hl' := hl.chg hC fun b hb _ => hb
  have hb' := hb.chg hC hpD
  refine CALLV_mk (by kernel_rfl) ?_
  refine C_i_MapByConfigs_1 ?_
  unfold V_i_MapByConfigs_1
  refine LD_bs hb' ?_
  refine hl'.ixI hu fun q _ hc => LD_int hc (LD_bs hb' ?_)
  refine hl'.ixI hv fun q _ hc => LD_int hc ?_
  intro w2 hE2
  have h1 := h40 _ (List.getElem_mem hu)
  have h2 := h40 _ (List.getElem_mem hv)
  rw [wrap_of (by omega) (by omega), keyOf_get hu, keyOf_get hv]
  exact ⟨by omega, hE2⟩

/-! ### The program's rows -/

theorem mcRows_ok {w : World} {c d rs s : Sl} {p q : Prob} {rows L : List (List Int)} {px : Addr} {t : TypeId} {Q : Sl → Bool → World → Prop} (hb : Box w px t [.int .i64 p.labels, .int .i64 p.degree, c.v, d.v]) (h : RProb w c d p) (hp : PGood p) (hsp : SmallP p) (hr : R w rs rows) (hM : CmOk p q rows) (hdeg : p.degree = q.degree) (hl : R w s L)
    (hlab : ∀ r ∈ L, AllIn r 0 (p.labels - 1)) (hnode : ∀ r ∈ L, (r.length : Int) = p.degree → NodeOk p r) (hL : L.length ≤ 1048576)
    (hQ : ∀ r w', Ext w w' → (∀ r ∈ L, (r.length : Int) = p.degree) → OutM w.heap.size w' r (L.map (rowFor p.nodes rows)) → Q r true w')
    (hno : ∀ w', Ext w w' → ¬ (∀ r ∈ L, (r.length : Int) = p.degree) → Q ⟨none, 0, 0⟩ false w') : V_i_MapByConfigs_k1 rs s Q px w := by
  have hd := hp.deg
  have hlb := hp.lab
  have hr64 := flat_okII hr
  obtain ⟨dn, hdn⟩ : ∃ dn : Nat, p.degree = dn := ⟨p.degree.toNat, by omega⟩
  unfold V_i_MapByConfigs_k1
  rw [hl.len]
  refine ⟨IN2 L.length fun i out w' => Ext w w' ∧ (∀ r ∈ L.take i, (r.length : Int) = p.degree) ∧ ∃ ss, RowsD w' w.heap.size T.t_int T.t_sl_int out ((L.take i).map (rowFor p.nodes rows)) ss, MN2 L.length, IN2_zero ⟨Ext.refl _, by simp, [], by simpa using RowsD.nil _ _ _ _⟩, ?_⟩
  rintro out _ w9 ⟨i, rfl, hi, hE9, hI, ss, hS⟩
  intros
  refine cond_dec (fun hlt => ?_) (fun hge => ?_)
  · have hi' : i < L.length := by omega
    refine (hl.ext hE9).ixL hi' fun q0 s1 hR1 hc => LD_sl hc ?_
    refine NEW_ST (one1s _) rfl fun pl w10 hpl hE10 hbl => LD_bs hbl (LD_bi1 ((hb.ext hE9).ext hE10) ?_)
    rw [hR1.len]
    have hE910 := hE9.trans hE10
    refine cond_ne (fun hne => hno _ hE910 fun hA => hne (hA _ (List.getElem_mem hi'))) (fun heq => LD_bi1 ((hb.ext hE9).ext hE10) ?_)
    have hln : (L[i].length : Int) = p.degree := heq
    have hlabi := hlab _ (List.getElem_mem hi')
    have hNi := hnode _ (List.getElem_mem hi') hln
    have hlen : L[i].length = dn := by omega
    rw [hdn]
    refine call (numbersTo_ok dn (by omega) w10) ?_
    rintro r12 w12 ⟨hE12, hO12⟩
    have hz9 := hE9.size_le
    have hz10 := hE10.size_le
    have hD : ∀ k, oB r12 k → w10.heap.size ≤ k := fun k hk => (hO12.blk k hk).1
    have hbl12 := hbl.ext hE12
    have hlt2 := hbl.lt
    rw [← hlen] at hO12
    refine call (sortStable_ok (key := keyOf L[i]) hO12 (upTo_ok _ (by omega)) (by rw [upTo_len]; omega) (upTo_rise _)
      (mcLess_ok (D := oB r12) (((hR1.ext hE10).below.ext hE12).weak (fun k hk _ hh => by have := hD k hh; have := hk.2; omega) RepP.pos) hbl12 (fun hh => by have := hD _ hh; omega) (fun x hx => by have := hlabi x hx; omega))) ?_
    rintro w13 ⟨ports, hO13, hC13, hperm, hsort⟩
    have hE1013 : Ext w10 w13 := hC13.ext0 hE12 hD
    have hplen : ports.length = L[i].length := by rw [hperm.length_eq, upTo_len]
    intro w14 hE14 _
    have hE1014 := hE1013.trans hE14
    have hEw14 := hE910.trans hE1014
    refine LD_bs2 (hb.ext hEw14) (LD_bs (hbl.ext hE1014) ⟨Ext.refl _, ?_⟩)
    have hR14 := ((hR1.any.ext hE10).ext hE1014)
    refine values_ok fun w15 hE15 hc15 => ⟨hE15, ?_⟩
    refine call (sorted_ok hc15 (hR14.ext hE15) (by omega)) ?_
    rintro r16 w16 ⟨hE16, hO16⟩
    have hE1416 := hE15.trans hE16
    refine ⟨hE1416, ?_⟩
    refine call (search_at (h.nodes.ext (hEw14.trans hE1416)) (hO16.rep (sortI_I64 (flat_ok hR14))).any (hp.nodes.lt) hsp.1.1) ?_
    rintro at1 b _ ⟨_, hat, rfl⟩
    obtain ⟨k, rfl, hk, hke⟩ := hat hNi
    refine ⟨hE1416, hE1416, hE1416, LD_bi1 (hb.ext (hEw14.trans hE1416)) ?_⟩
    rw [hdn]
    refine RUN_make (α := Int) slt_int (d := 0) rfl (by omega) (by unfold maxLen; omega) fun im w18 hE18 hO18 => ?_
    have hkr : k < rows.length := by have := hM.len; omega
    have hrowlen : rows[k].length = dn := by have := (hM.row _ (List.getElem_mem hkr)).1; omega
    have hE1418 := hE1416.trans hE18
    have hEw18 := hEw14.trans hE1418
    have hP18 : R w18 r12 ports := ((hO13.rep fun x hx => by obtain ⟨u, rfl, hu⟩ := mem_upto.1 (hperm.mem_iff.1 hx); show I64 _; unfold I64; omega).any.ext hE14).ext hE1418
    have hPb : SlR (fun b => b < w16.heap.size) w18 r12 ports := (((hO13.rep fun x hx => by obtain ⟨u, rfl, hu⟩ := mem_upto.1 (hperm.mem_iff.1 hx); show I64 _; unfold I64; omega).any.ext hE14).ext hE1416).below.ext hE18 |>.weak (fun b hb _ => hb.2) RepP.pos
    have hrb : SlR (fun b => b < w16.heap.size) w18 rs rows := ((hr.ext (hEw14.trans hE1416)).below.ext hE18).weak (fun b hb _ => hb.2) RepP.pos
    rw [hP18.len]
    refine ⟨IN ports.length fun j w' => Ext w16 w' ∧ ∃ m, OwnL w' w16.heap.size T.t_int im m ∧ m.length = dn ∧ ∀ u (hu : u < ports.length), u < j → m.getD ports[u].toNat 0 = rows[k].getD u 0, MN ports.length, IN_zero ⟨hE18, _, hO18, by simp, fun u _ h0 => absurd h0 (by omega)⟩, ?_⟩
    rintro _ w19 ⟨j, rfl, hj, hE19, m, hm, hml, hset⟩
    intros
    have hstay : ∀ {w' : World}, Ext w16 w' → True := fun _ => trivial
    refine cond_dec (fun hlt3 => ?_) (fun hge3 => ?_)
    · have hj' : j < ports.length := by omega
      have hP19 := (((hO13.rep fun x hx => by obtain ⟨u, rfl, hu⟩ := mem_upto.1 (hperm.mem_iff.1 hx); show I64 _; unfold I64; omega).any.ext hE14).ext hE1416).ext hE19
      have hr19 := (hr.ext (hEw14.trans hE1416)).ext hE19
      obtain ⟨u, hue, hul⟩ := mem_upto.1 (hperm.mem_iff.1 (List.getElem_mem hj'))
      refine hP19.ixI hj' fun q1 _ hc => LD_int hc ?_
      refine hr19.ixL hkr fun q2 s2 hR2 hc => LD_sl hc ?_
      refine hR2.any.ixI (i := j) (by omega) fun q3 hv64 hc => LD_int hc ?_
      rw [hue]
      refine IX_own hm (by omega) rfl fun p8 hp8 => ?_
      refine ST_own hm (by omega) hp8 (rows[k][j]'(by omega)) rfl fun w20 hm20 hs20 => ?_
      refine IN_next (by omega) hj' ⟨hs20.ext0 hE19 fun k hk => (hm.blk k hk).1, _, hm20, by simpa using hml, fun v hv hvj => ?_⟩
      by_cases hvj' : v = j
      · subst hvj'
        rw [hue]
        simp [hml, show u < dn by omega, show v < rows[k].length by omega]
      · have hlt4 : v < j := by omega
        have hne := List.pairwise_iff_getElem.1 hsort v j hv hj' hlt4
        obtain ⟨u2, hue2, _⟩ := mem_upto.1 (hperm.mem_iff.1 (List.getElem_mem hv))
        have huu : u ≠ u2 := fun he => by
          rw [hue, hue2, he] at hne
          unfold ltK at hne; omega
        rw [← hset v hv hlt4, hue2]
        simp only [Int.toNat_natCast, List.getD_eq_getElem?_getD]
        rw [List.getElem?_set_ne huu]
    · have : j = ports.length := by omega
      subst this
      have hmr : m = rowFor p.nodes rows L[i] := by
        have h1 := image_done (row := rows[k]) hperm hsort (by omega) fun v hv => hset v hv hv
        rw [h1]
        unfold rowFor
        have e1 : p.nodes.idxOf (sortI L[i]) = k := by rw [← hke]; exact idx_of hp.nodes hk
        rw [e1]
        simp [hkr]
      subst hmr
      have hEw19 := (hEw14.trans hE1416).trans hE19
      have hE919 := ((hE10.trans hE1014).trans hE1416).trans hE19
      refine RUN_lit1 (α := Sl) slt_rows im rfl (by decide) fun y w21 hE21 hO21 => ?_
      have hS21 := (hS.ext hE919).ext hE21
      have hz16 := (hEw14.trans hE1416).size_le
      have hz916 := ((hE10.trans hE1014).trans hE1416).size_le
      have hEt := hEw19.trans hE21
      refine RUN_append_rowD slt_rows (by decide) hS21 hEt.size_le ((hm.ext hE21).low (by omega)) (hS.fresh (hm.ext hE21) hz916) hO21 (by simp; omega) (by simp [maxLen]; omega) fun s' w22 hM22 hs22 => ?_
      refine IN2_next hl.le hi' ⟨hs22.ext0 hEt (fun k hk => (hS21.own.blk k hk).1), fun r hr => ?_, ss ++ [im], ?_⟩
      · rw [List.take_succ_eq_append_getElem hi'] at hr
        rcases List.mem_append.1 hr with h1 | h1
        · exact (hI r h1).trans hdn
        · rw [List.mem_singleton.1 h1]; exact hln.trans hdn
      · rw [map_take_succ hi']
        exact hM22
  · have : i = L.length := by omega
    subst this
    rw [List.take_length] at hS hI
    refine hQ _ _ hE9 hI ⟨⟨ss, hS⟩, fun r hr => ?_, by simpa using hL, fun r hr => ?_⟩
    · obtain ⟨l, hlm, rfl⟩ := List.mem_map.1 hr
      intro x hx
      unfold rowFor at hx
      obtain ⟨j, _, rfl⟩ := List.mem_map.1 hx
      generalize p.nodes.idxOf (sortI l) = a
      generalize placeOf l j = b
      by_cases ha : a < rows.length
      · by_cases hb : b < rows[a].length
        · simp only [List.getD_eq_getElem?_getD, List.getElem?_eq_getElem ha, Option.getD_some, List.getElem?_eq_getElem hb]
          exact hr64 _ (List.getElem_mem ha) _ (List.getElem_mem hb)
        · simp only [List.getD_eq_getElem?_getD, List.getElem?_eq_getElem ha, Option.getD_some, List.getElem?_eq_none (Nat.le_of_not_lt hb), Option.getD_none]
          unfold I64; omega
      · simp only [List.getD_eq_getElem?_getD, List.getElem?_eq_none (Nat.le_of_not_lt ha), Option.getD_none, List.getElem?_nil]
        unfold I64; omega
    · obtain ⟨l, hl', rfl⟩ := List.mem_map.1 hr
      rw [rowFor_len]
      have := hI l hl'
      omega

/-! ### Whether it is a configuration map: the reference -/

theorem reRows_ok {w : World} {c d c' d' rs : Sl} {p q : Prob} {rows : List (List Int)} (h : RProb w c d p) (h' : RProb w c' d' q) (hp : PGood p) (hq : PGood q) (hdeg : p.degree = q.degree) (hr : R w rs rows) :
    Calls Tryz.prog F.s_reRows #[.agg #[.int .i64 p.labels, .int .i64 p.degree, c.v, d.v], .agg #[.int .i64 q.labels, .int .i64 q.degree, c'.v, d'.v], rs.v] w (Ret [.at .bool] fun (x : Bool) w' => (x = true ↔ CmOk p q rows) ∧ Ext w w') := by
  refine C_s_reRows ?_
  unfold V_s_reRows
  refine NEW_intro fun pp w1 hp1 hs1 hE1 hb1 => NEW_intro fun pq w2 hp2 hs2 hE2 hb2 => LD_bs2 (hb1.ext hE2) ?_
  have hE := hE1.trans hE2
  replace h := h.ext hE
  replace h' := h'.ext hE
  replace hr := hr.ext hE
  replace hb1 := hb1.ext hE2
  have hno : ∀ {w' : World}, Ext w w' → ¬ CmOk p q rows → (false = true ↔ CmOk p q rows) ∧ Ext w w' := fun h1 h2 => ⟨by simp [h2], h1⟩
  rw [hr.len, h.nodes.len]
  refine cond_ne (fun hne => hno hE fun hM => hne (by have := hM.len; omega)) (fun heq => ?_)
  have hlen : rows.length = p.nodes.length := by have : ((rows.length : Nat) : Int) = (p.nodes.length : Nat) := heq; omega
  have hd := hp.deg
  have hlq := hq.lab
  have hcn : ∀ x ∈ p.nodes, x.length = p.degree.toNat := fun x hx => by have := (confRow hp.nodes hx).1; omega
  have hn64 := flat_okII h.nodes
  have hr64 := flat_okII hr
  have hrle := hr.le
  refine ⟨IN rows.length fun i w' => Ext w2 w' ∧ ∀ r ∈ rows.take i, CRow q r, MN rows.length, IN_zero ⟨Ext.refl _, by simp⟩, ?_⟩
  rintro _ w3 ⟨i, rfl, hi, hE3, hI⟩
  intros
  refine cond_dec (fun hlt => ?_) (fun hge => ?_)
  · have hi' : i < rows.length := by omega
    refine (hr.ext hE3).ixL hi' fun q0 s1 hR1 hc => LD_sl hc (LD_bi1 (hb2.ext hE3) ?_)
    rw [hR1.len]
    refine cond_ne (fun hne => hno (hE.trans hE3) fun hM => hne (hM.row _ (List.getElem_mem hi')).1) (fun hreq => LD_bi0 (hb2.ext hE3) ?_)
    have hrl : (rows[i].length : Int) = q.degree := hreq
    rw [wrap_of (n := q.labels - 1) (by omega) (by omega)]
    refine call (l1All_ok hR1.any 0 (q.labels - 1)) ?_
    rintro x _ ⟨hx, rfl⟩
    refine cond_not (fun hf => hno (hE.trans hE3) fun hM => by rw [hx.2 (hM.row _ (List.getElem_mem hi')).2.1] at hf; cases hf) (fun ht => LD_iiss (hb2.ext hE3) ?_)
    refine call (prNode_ok (h'.ext hE3) hR1.any (by omega)) ?_
    rintro y w5 ⟨hy, hE5⟩
    refine cond_not (fun hf => hno (hE.trans (hE3.trans hE5)) fun hM => by rw [hy.2 (hM.row _ (List.getElem_mem hi')).2.2] at hf; cases hf) (fun ht2 => IN_next hrle hi' ⟨hE3.trans hE5, fun r hr => ?_⟩)
    rw [List.take_succ_eq_append_getElem hi'] at hr
    rcases List.mem_append.1 hr with h1 | h1
    · exact hI r h1
    · rw [List.mem_singleton.1 h1]; exact ⟨hrl, hx.1 ht, hy.1 ht2⟩
  · have : i = rows.length := by omega
    subst this
    rw [List.take_length] at hI
    have hnle := h.nodes.le
    have hE03 := hE.trans hE3
    refine LD_bs2 (hb1.ext hE3) ?_
    rw [h.nodes.len]
    -- the places that are behind us
    let G : Nat → Nat → Nat → Nat → Prop := fun x i y j => ∀ (hx : x < p.nodes.length) (hi : i < p.nodes[x].length) (hy : y < p.nodes.length) (hj : j < p.nodes[y].length), EdgeIs p p.nodes[x][i] p.nodes[y][j] → EdgeIs q ((rows.getD x []).getD i 0) ((rows.getD y []).getD j 0)
    refine ⟨IN p.nodes.length fun x w' => Ext w3 w' ∧ ∀ x' < x, ∀ i y j, G x' i y j, MN p.nodes.length, IN_zero ⟨Ext.refl _, fun x' hx' => absurd hx' (by omega)⟩, ?_⟩
    rintro _ w6 ⟨x, rfl, hx, hE6, hX⟩
    intros
    refine cond_dec (fun hltx => ?_) (fun hgex => ?_)
    rotate_left
    · have : x = p.nodes.length := by omega
      subst this
      refine ⟨by
        simp only [true_iff]
        refine ⟨hlen, hI, fun u hu v hv he => ?_⟩
        obtain ⟨x, i, hx, hx', hi, hi', rfl⟩ := mem_pairs.1 hu
        obtain ⟨y, j, hy, hy', hj, hj', rfl⟩ := mem_pairs.1 hv
        have := hX x (by omega) i y j hx hi hy hj he
        simpa [hx', hy', hi', hj'] using this, hE03.trans hE6⟩
    have hx' : x < p.nodes.length := by omega
    have hxr : x < rows.length := by omega
    refine (h.nodes.ext (hE3.trans hE6)).ixL hx' fun q1 s1 hR1 hc => LD_sl hc (LD_bs2 (hb1.ext (hE3.trans hE6)) ?_)
    rw [h.nodes.len]
    refine ⟨IN p.nodes.length fun y w' => Ext w6 w' ∧ ∀ y' < y, ∀ i j, G x i y' j, MN p.nodes.length, IN_zero ⟨Ext.refl _, fun y' hy' => absurd hy' (by omega)⟩, ?_⟩
    rintro _ w7 ⟨y, rfl, hy, hE7, hY⟩
    intros
    refine cond_dec (fun hlty => ?_) (fun hgey => ?_)
    rotate_left
    · have : y = p.nodes.length := by omega
      subst this
      exact IN_next hnle hx' ⟨hE6.trans hE7, all_succ hX fun i y j hx hi hy hj => hY y hy i j hx hi hy hj⟩
    have hy' : y < p.nodes.length := by omega
    have hyr : y < rows.length := by omega
    have hE27 := (hE3.trans hE6).trans hE7
    refine (h.nodes.ext hE27).ixL hy' fun q2 s2 hR2 hc => LD_sl hc ?_
    rw [hR1.len]
    refine ⟨IN p.nodes[x].length fun i w' => Ext w7 w' ∧ ∀ i' < i, ∀ j, G x i' y j, MN p.nodes[x].length, IN_zero ⟨Ext.refl _, fun i' hi' => absurd hi' (by omega)⟩, ?_⟩
    rintro _ w8 ⟨i, rfl, hi, hE8, hZ⟩
    intros
    refine cond_dec (fun hlti => ?_) (fun hgei => ?_)
    rotate_left
    · have : i = p.nodes[x].length := by omega
      subst this
      exact IN_next hnle hy' ⟨hE7.trans hE8, all_succ hY fun i j hx hi hy hj => hZ i hi j hx hi hy hj⟩
    have hi' : i < p.nodes[x].length := by omega
    have hir : i < rows[x].length := by have := (hI _ (List.getElem_mem hxr)).1; have := hcn _ (List.getElem_mem hx'); omega
    refine (hR1.any.ext (hE7.trans hE8)).ixI hi' fun q3 ha64 hc => LD_int hc ?_
    rw [hR2.len]
    refine ⟨IN p.nodes[y].length fun j w' => Ext w8 w' ∧ ∀ j' < j, G x i y j', MN p.nodes[y].length, IN_zero ⟨Ext.refl _, fun j' hj' => absurd hj' (by omega)⟩, ?_⟩
    rintro _ w9 ⟨j, rfl, hj, hE9, hW⟩
    intros
    refine cond_dec (fun hltj => ?_) (fun hgej => ?_)
    rotate_left
    · have : j = p.nodes[y].length := by omega
      subst this
      exact IN_next hR1.any.le hi' ⟨hE8.trans hE9, all_succ hZ fun j hx hi hy hj => hW j hj hx hi hy hj⟩
    have hj' : j < p.nodes[y].length := by omega
    have hjr : j < rows[y].length := by have := (hI _ (List.getElem_mem hyr)).1; have := hcn _ (List.getElem_mem hy'); omega
    have hE29 := (hE27.trans hE8).trans hE9
    refine (hR2.any.ext (hE8.trans hE9)).ixI hj' fun q4 hb64 hc => LD_int hc (LD_iiss (hb1.ext hE29) ?_)
    refine QCALL_bool (edgeB p p.nodes[x][i] p.nodes[y][j]) (prEdgeQ (h.ext hE29) ha64 hb64) ?_
    refine cond_b (fun ht => ?_) (fun hf w10 hE10 => IN_next hR2.any.le hj' ⟨hE9.trans hE10, all_succ hW fun _ _ _ _ he => absurd he (edgeB_no.1 hf)⟩)
    refine LD_iiss (hb2.ext hE29) ?_
    refine (hr.ext hE29).ixL hxr fun q5 s5 hR5 hc => LD_sl hc ?_
    refine hR5.any.ixI hir fun q6 ha64' hc => LD_int hc ?_
    refine (hr.ext hE29).ixL hyr fun q7 s7 hR7 hc => LD_sl hc ?_
    refine hR7.any.ixI hjr fun q8 hb64' hc => LD_int hc ?_
    refine QCALL_bool (edgeB q rows[x][i] rows[y][j]) (prEdgeQ (h'.ext hE29) ha64' hb64') ?_
    intro w10 hE10
    refine cond_not (fun hf => hno (hE.trans (hE29.trans hE10)) fun hM => ?_) (fun ht2 => IN_next hR2.any.le hj' ⟨hE9.trans hE10, all_succ hW fun _ _ _ _ _ => by simpa [hxr, hyr, hir, hjr] using edgeB_iff.1 ht2⟩)
    exact edgeB_no.1 hf (hM.pairs (p.nodes[x][i], rows[x][i]) (mem_pairs.2 ⟨x, i, hx', hxr, hi', hir, rfl⟩) (p.nodes[y][j], rows[y][j]) (mem_pairs.2 ⟨y, j, hy', hyr, hj', hjr, rfl⟩) (edgeB_iff.1 ht))

/-! ### The reference's rows -/

theorem place_lt {l : List Int} {i : Nat} (hi : i < l.length) : placeOf l i < l.length := by
  unfold placeOf
  have h1 := List.countP_le_length (p := fun j => decide (l.getD j 0 < l.getD i 0 ∨ (l.getD j 0 = l.getD i 0 ∧ j < i))) (l := List.range l.length)
  rw [List.length_range] at h1
  rcases Nat.lt_or_eq_of_le h1 with h2 | h2
  · exact h2
  · have h3 := List.countP_eq_length.1 (h2.trans List.length_range.symm) i (List.mem_range.2 hi)
    simp at h3

theorem reRow_ok {w : World} {c d rs s : Sl} {p : Prob} {rows : List (List Int)} {l : List Int} (h : RProb w c d p) (hp : PGood p) (hr : R w rs rows) (hl : R w s l) (hll : (l.length : Int) = p.degree) (hN : NodeOk p l) (hlen : rows.length = p.nodes.length) (hrow : ∀ r ∈ rows, (r.length : Int) = p.degree) :
    Calls Tryz.prog F.s_reRow #[.agg #[.int .i64 p.labels, .int .i64 p.degree, c.v, d.v], rs.v, s.v] w (Ret [.at .sl] fun (r : Sl) w' => Ext w w' ∧ OwnL w' w.heap.size T.t_int r (rowFor p.nodes rows l)) := by
  have hd := hp.deg
  have hl64 := flat_ok hl
  refine C_s_reRow ?_
  unfold V_s_reRow
  refine NEW_intro fun pp w1 hp1 hs1 hE1 hb1 => ?_
  have hk0 : p.nodes.idxOf (sortI l) < p.nodes.length := List.idxOf_lt_length_of_mem hN
  have hk0e : p.nodes[p.nodes.idxOf (sortI l)] = sortI l := List.getElem_idxOf hk0
  have hnle := h.nodes.le
  refine ⟨fun (x : Int) w' => ∃ k : Nat, x = k ∧ k ≤ p.nodes.idxOf (sortI l) ∧ Ext w1 w', fun x _ => p.nodes.length - x.toNat, ⟨0, rfl, Nat.zero_le _, Ext.refl _⟩, ?_⟩
  rintro _ w2 ⟨k, rfl, hk, hE2⟩
  intros
  rename_i w3 hE3 _
  have hkn : k < p.nodes.length := by omega
  have hE13 := hE2.trans hE3
  have hE03 := hE1.trans hE13
  refine LD_bs2 (hb1.ext hE13) ?_
  refine (h.nodes.ext hE03).ixL hkn fun q1 s1 hR1 hc => LD_sl hc ⟨Ext.refl _, ?_⟩
  refine call (prSorted_ok (hl.ext hE03) (by omega)) ?_
  rintro r4 w4 ⟨hE4, hO4⟩
  refine ⟨hE4, ?_⟩
  refine call (l1Same_ok (hR1.any.ext hE4) (hO4.rep (sortI_I64 hl64)).any) ?_
  rintro _ w5 ⟨rfl, hE5⟩
  have hE35 := hE4.trans hE5
  refine ⟨hE35, hE35, ?_⟩
  refine cond_not (fun hf => ?_) (fun ht => ?_)
  · have hne : p.nodes[k] ≠ sortI l := fun he => by simp [he] at hf
    have hlt : k < p.nodes.idxOf (sortI l) := by
      rcases Nat.lt_or_eq_of_le hk with h1 | h1
      · exact h1
      · subst h1; exact absurd hk0e hne
    rw [wrap_of (by omega) (by omega)]
    exact ⟨⟨k + 1, by omega, hlt, hE13.trans hE35⟩, by simp only []; omega⟩
  have hke : p.nodes[k] = sortI l := by simpa using ht
  have hkid : p.nodes.idxOf (sortI l) = k := by rw [← hke]; exact idx_of hp.nodes hkn
  have hkr : k < rows.length := by omega
  have hE05 := hE03.trans hE35
  have hrl := hrow _ (List.getElem_mem hkr)
  rw [hl.len]
  refine RUN_make (α := Int) slt_int (d := 0) rfl (by omega) (by unfold maxLen; omega) fun im w6 hE6 hO6 => ?_
  refine ⟨IN l.length fun i w' => Ext w5 w' ∧ ∃ m, OwnL w' w5.heap.size T.t_int im m ∧ m.length = l.length ∧ ∀ u < i, m.getD u 0 = rows[k].getD (placeOf l u) 0, MN l.length, IN_zero ⟨hE6, _, hO6, by simp, fun u hu => absurd hu (by omega)⟩, ?_⟩
  rintro _ w7 ⟨i, rfl, hi, hE7, m, hm, hml, hset⟩
  intros
  have hE07 := hE05.trans hE7
  refine cond_dec (fun hlt => ?_) (fun hge => ?_)
  · have hi' : i < l.length := by omega
    refine (hl.ext hE07).ixI hi' fun q2 _ hc => LD_int hc ?_
    let f : Nat → Bool := fun j => decide (l.getD j 0 < l.getD i 0 ∨ (l.getD j 0 = l.getD i 0 ∧ j < i))
    refine ⟨fun (x y : Int) w' => ∃ j : Nat, y = j ∧ j ≤ l.length ∧ x = ((List.range j).countP f : Nat) ∧ w7 = w', fun _ y _ => l.length - y.toNat, ⟨0, rfl, Nat.zero_le _, rfl, rfl⟩, ?_⟩
    rintro _ _ _ ⟨j, rfl, hj, rfl, rfl⟩
    intros
    refine cond_dec (fun hlt2 => ?_) (fun hge2 => ?_)
    · have hj' : j < l.length := by omega
      have hcl := List.countP_le_length (p := f) (l := List.range j)
      rw [List.length_range] at hcl
      have hstep : ∀ b : Bool, f j = b → (∃ j' : Nat, IntKind.i64.wrap ((j : Int) + 1) = j' ∧ j' ≤ l.length ∧ (if b then IntKind.i64.wrap (((List.range j).countP f : Nat) + 1) else ((List.range j).countP f : Nat)) = ((List.range j').countP f : Nat) ∧ w7 = w7) ∧ l.length - (IntKind.i64.wrap ((j : Int) + 1)).toNat < l.length - ((j : Int)).toNat := fun b hb => by
        rw [wrap_of (n := (j : Int) + 1) (by omega) (by omega)]
        refine ⟨⟨j + 1, by omega, hj', ?_, rfl⟩, by omega⟩
        rw [List.range_succ, List.countP_append, List.countP_singleton, hb]
        cases b with
        | true => simp only [if_pos]; rw [wrap_of (by omega) (by omega)]; simp
        | false => simp
      refine (hl.ext hE07).ixI hj' fun q3 _ hc => LD_int hc ?_
      unfold V_s_reRow_k8
      have e1 : l.getD j 0 = l[j] := by simp [hj']
      have e2 : l.getD i 0 = l[i] := by simp [hi']
      refine cond_dec (fun h1 => ?_) (fun h1 => ?_)
      · exact hstep true (by simp only [f, e1, e2]; simp [h1])
      · refine cond_eq (fun h2 => ?_) (fun h2 => ?_)
        · have h2' : l[j] = l[i] := h2
          refine cond_dec (fun h3 => ?_) (fun h3 => ?_)
          · exact hstep true (by simp only [f, e1, e2]; simp [h2']; omega)
          · exact hstep false (by simp only [f, e1, e2]; simp [h2']; omega)
        · have h2' : ¬ l[j] = l[i] := h2
          exact hstep false (by simp only [f, e1, e2]; simp [h2']; omega)
    · have : j = l.length := by omega
      subst this
      have hpl := place_lt hi'
      have e : (List.range l.length).countP f = placeOf l i := rfl
      rw [e]
      refine (hr.ext hE07).ixL hkr fun q4 s4 hR4 hc => LD_sl hc ?_
      refine hR4.any.ixI (by omega) fun q5 _ hc => LD_int hc ?_
      refine IX_own hm (by omega) rfl fun p8 hp8 => ?_
      refine ST_own hm (by omega) hp8 (rows[k][placeOf l i]'(by omega)) rfl fun w10 hm10 hs10 => ?_
      refine IN_next hl.le hi' ⟨hs10.ext0 hE7 fun b hb => (hm.blk b hb).1, _, hm10, by simpa using hml, fun u hu => ?_⟩
      by_cases hui : u = i
      · subst hui
        simp [hml, hi', show placeOf l u < rows[k].length by omega]
      · rw [← hset u (by omega)]
        simp only [List.getD_eq_getElem?_getD]
        rw [List.getElem?_set_ne (Ne.symm hui)]
  · have : i = l.length := by omega
    subst this
    have hmr : m = rowFor p.nodes rows l := by
      unfold rowFor
      rw [hkid]
      apply List.ext_getElem (by simp [hml])
      intro u h1 h2
      have := hset u (by omega)
      simp only [List.getElem_map, List.getElem_range]
      have e : rows.getD k [] = rows[k] := by simp [hkr]
      rw [e, ← this]
      simp [h1]
    subst hmr
    exact ⟨hE07, hm.low hE05.size_le⟩

theorem mcRowsS_ok {w : World} {c d rs s : Sl} {p q : Prob} {rows L : List (List Int)} {px : Addr} {t : TypeId} {Q : Sl → Bool → World → Prop} (hb : Box w px t [.int .i64 p.labels, .int .i64 p.degree, c.v, d.v]) (h : RProb w c d p) (hp : PGood p) (hr : R w rs rows) (hM : CmOk p q rows) (hdeg : p.degree = q.degree) (hl : R w s L)
    (hnode : ∀ r ∈ L, NodeOk p r) (hfull : ∀ r ∈ L, (r.length : Int) = p.degree) (hL : L.length ≤ 1048576)
    (hQ : ∀ r w', Ext w w' → R w' r (L.map (rowFor p.nodes rows)) → Q r true w') : V_s_MapByConfigs_k1 rs s Q px w := by
  have hd := hp.deg
  have hr64 := flat_okII hr
  unfold V_s_MapByConfigs_k1
  rw [hl.len]
  refine ⟨IN2 L.length fun i out w' => Ext w w' ∧ ∃ ss, RowsD w' w.heap.size T.t_int T.t_sl_int out ((L.take i).map (rowFor p.nodes rows)) ss, MN2 L.length, IN2_zero ⟨Ext.refl _, [], by simpa using RowsD.nil _ _ _ _⟩, ?_⟩
  rintro out _ w9 ⟨i, rfl, hi, hE9, ss, hS⟩
  intros
  have h64 : ∀ (L' : List (List Int)), ∀ r ∈ L'.map (rowFor p.nodes rows), ∀ x ∈ r, I64 x := by
    intro L' r hrm x hx
    obtain ⟨l, hlm, rfl⟩ := List.mem_map.1 hrm
    unfold rowFor at hx
    obtain ⟨j, _, rfl⟩ := List.mem_map.1 hx
    generalize p.nodes.idxOf (sortI l) = a
    generalize placeOf l j = b
    by_cases ha : a < rows.length
    · by_cases hb : b < rows[a].length
      · simp only [List.getD_eq_getElem?_getD, List.getElem?_eq_getElem ha, Option.getD_some, List.getElem?_eq_getElem hb]
        exact hr64 _ (List.getElem_mem ha) _ (List.getElem_mem hb)
      · simp only [List.getD_eq_getElem?_getD, List.getElem?_eq_getElem ha, Option.getD_some, List.getElem?_eq_none (Nat.le_of_not_lt hb), Option.getD_none]
        unfold I64; omega
    · simp only [List.getD_eq_getElem?_getD, List.getElem?_eq_none (Nat.le_of_not_lt ha), Option.getD_none, List.getElem?_nil]
      unfold I64; omega
  refine cond_dec (fun hlt => ?_) (fun hge => ?_)
  · have hi' : i < L.length := by omega
    refine (hl.ext hE9).ixL hi' fun q0 s1 hR1 hc => LD_sl hc (LD_iiss (hb.ext hE9) ?_)
    refine call (reRow_ok (h.ext hE9) hp (hr.ext hE9) hR1.any (hfull _ (List.getElem_mem hi')) (hnode _ (List.getElem_mem hi')) hM.len (fun r hr => (hM.row r hr).1.trans hdeg.symm)) ?_
    rintro im w13 ⟨hE13, hO13⟩
    refine RUN_lit1 (α := Sl) slt_rows im rfl (by decide) fun y w21 hE21 hO21 => ?_
    have hE921 := hE13.trans hE21
    have hS21 := hS.ext hE921
    have hEt := hE9.trans hE921
    have hz9 := hE9.size_le
    refine RUN_append_rowD slt_rows (by decide) hS21 hEt.size_le ((hO13.ext hE21).low hz9) (hS.fresh (hO13.ext hE21) (Nat.le_refl _)) hO21 (by simp; omega) (by simp [maxLen]; omega) fun s' w22 hM22 hs22 => ?_
    refine IN2_next hl.le hi' ⟨hs22.ext0 hEt (fun k hk => (hS21.own.blk k hk).1), ss ++ [im], ?_⟩
    rw [map_take_succ hi']
    exact hM22
  · have : i = L.length := by omega
    subst this
    rw [List.take_length] at hS
    exact hQ _ _ hE9 (hS.rep (h64 L)).any

/-! ### The statement's answers -/

theorem McAsked.of {p q : Prob} {rows : List (List Int)} {n : Net} {L : List (List Int)} (h1 : TwoOk p q) (h2 : CmOk p q rows) (h3 : Good n) (h4 : LabOk p n.ends L) (h5 : Clean p n.ends L) (h6 : ∀ r ∈ L, (r.length : Int) = p.degree) : McAsked p q rows n L := ⟨h1.1, h1.2.1, h1.2.2, h2, h3, h4, h5, h6⟩

theorem clean_nodes {p : Prob} {n : Net} {L : List (List Int)} (h4 : LabOk p n.ends L) (h5 : Clean p n.ends L) : ∀ r ∈ L, (r.length : Int) = p.degree → NodeOk p r := fun r hr hd => by
  obtain ⟨v, hv, rfl⟩ := List.mem_iff_getElem.1 hr
  have hve : v < n.ends.length := by have := h4.rows.1; omega
  have hB := (h5 v hve).1
  unfold NodeBad at hB
  rw [rowD hv] at hB
  exact Classical.byContradiction fun hn => hB ⟨hd, hn⟩

theorem MapByConfigs_ok {w : World} {c d c' d' rs a b e s : Sl} {p q : Prob} {rows : List (List Int)} {n : Net} {L : List (List Int)} (h : RProb w c d p) (h' : RProb w c' d' q) (hr : R w rs rows) (hN : RNet w a b e n) (hl : R w s L) (hsp : SmallP p) (hsq : SmallP q) (_ : SmallM rows) (hn : Small n) (hsl : SmallM L) :
    Calls Tryz.prog F.i_MapByConfigs #[.agg #[.int .i64 p.labels, .int .i64 p.degree, c.v, d.v], .agg #[.int .i64 q.labels, .int .i64 q.degree, c'.v, d'.v], rs.v, .agg #[a.v, b.v, e.v], s.v] w (Ret [.at .sl, .at .bool] fun (r : Sl) (y : Bool) w' => Ext w w' ∧ ∃ m, OutM w.heap.size w' r m ∧ AnsG (McAsked p q rows n L) (L.map (rowFor p.nodes rows)) [] m y) := by
  refine C_i_MapByConfigs ?_
  unfold V_i_MapByConfigs
  refine NEW_intro fun pp w1 hp1 hs1 hE1 hb1 => NEW_intro fun pq w2 hp2 hs2 hE2 hb2 => NEW_intro fun pn w3 hp3 hs3 hE3 hb3 => ?_
  have hE := (hE1.trans hE2).trans hE3
  replace h := h.ext hE
  replace h' := h'.ext hE
  replace hr := hr.ext hE
  replace hN := hN.ext hE
  replace hl := hl.ext hE
  replace hb1 := hb1.ext hE2
  replace hb1 := hb1.ext hE3
  replace hb2 := hb2.ext hE3
  refine LD_iiss hb1 (LD_iiss hb2 ?_)
  refine call (areProblems_ok h h') ?_
  rintro x w4 ⟨hx, hE4⟩
  replace hE := hE.ext hE4
  replace h := h.ext hE4
  replace h' := h'.ext hE4
  replace hr := hr.ext hE4
  replace hN := hN.ext hE4
  replace hl := hl.ext hE4
  replace hb1 := hb1.ext hE4
  replace hb2 := hb2.ext hE4
  replace hb3 := hb3.ext hE4
  refine cond_not (fun hfa => ⟨hE, [], OutM.nil _ _, .no fun hA => (by rw [hx.2 ⟨hA.left, hA.right, hA.deg⟩] at hfa; cases hfa)⟩) (fun ht => LD_iiss hb1 (LD_iiss hb2 ?_))
  have hT := hx.1 ht
  refine call (isConfigMap_ok h h' hT.1 hT.2.1 hsp hsq hT.2.2 hr) ?_
  rintro y w5 ⟨hy, hE5⟩
  replace hE := hE.ext hE5
  replace h := h.ext hE5
  replace h' := h'.ext hE5
  replace hr := hr.ext hE5
  replace hN := hN.ext hE5
  replace hl := hl.ext hE5
  replace hb1 := hb1.ext hE5
  replace hb2 := hb2.ext hE5
  replace hb3 := hb3.ext hE5
  refine cond_not (fun hfa => ⟨hE, [], OutM.nil _ _, .no fun hA => (by rw [hy.2 hA.map] at hfa; cases hfa)⟩) (fun ht2 => LD_box3 hb3 ?_)
  have hMp := hy.1 ht2
  refine call (isNetwork_ok hN hn.2.2.1) ?_
  rintro z w6 ⟨hz, hE6⟩
  replace hE := hE.ext hE6
  replace h := h.ext hE6
  replace h' := h'.ext hE6
  replace hr := hr.ext hE6
  replace hN := hN.ext hE6
  replace hl := hl.ext hE6
  replace hb1 := hb1.ext hE6
  replace hb2 := hb2.ext hE6
  replace hb3 := hb3.ext hE6
  refine cond_not (fun hfa => ⟨hE, [], OutM.nil _ _, .no fun hA => (by rw [hz.2 hA.good] at hfa; cases hfa)⟩) (fun ht3 => LD_iiss hb1 (LD_box3 hb3 ?_))
  have hg := hz.1 ht3
  refine call (isSolution_ok h hsp hT.1 hg hN hl) ?_
  rintro u w7 ⟨hu, hE7⟩
  replace hE := hE.ext hE7
  replace h := h.ext hE7
  replace h' := h'.ext hE7
  replace hr := hr.ext hE7
  replace hN := hN.ext hE7
  replace hl := hl.ext hE7
  replace hb1 := hb1.ext hE7
  replace hb2 := hb2.ext hE7
  replace hb3 := hb3.ext hE7
  refine cond_not (fun hfa => ⟨hE, [], OutM.nil _ _, .no fun hA => (by rw [hu.2 ⟨hA.lab, hA.clean⟩] at hfa; cases hfa)⟩) (fun ht4 => ?_)
  obtain ⟨hLb, hCl⟩ := hu.1 ht4
  refine mcRows_ok hb1 h hT.1 hsp hr hMp hT.2.2 hl hLb.labs (clean_nodes hLb hCl) hsl.1 (fun r w' hE' hfull hM => ⟨hE.trans hE', _, hM.low hE.size_le, .yes (.of hT hMp hg hLb hCl hfull)⟩)
    (fun w' hE' hnf => ⟨hE.trans hE', [], OutM.nil _ _, .no fun hA => hnf hA.full⟩)

theorem full_iff {p : Prob} {n : Net} {L : List (List Int)} (h4 : LabOk p n.ends L) : AllIn (degsOf n.ends) p.degree p.degree ↔ ∀ r ∈ L, (r.length : Int) = p.degree := by
  have hlen := h4.rows.1
  unfold degsOf AllIn
  constructor
  · intro h r hr
    obtain ⟨v, hv, rfl⟩ := List.mem_iff_getElem.1 hr
    have hve : v < n.ends.length := by omega
    have h1 := h4.rows.2 v hv
    rw [rowD hv, rowD hve] at h1
    have := h _ (List.mem_map.2 ⟨_, List.getElem_mem hve, rfl⟩)
    omega
  · intro h x hx
    obtain ⟨r, hr, rfl⟩ := List.mem_map.1 hx
    obtain ⟨v, hve, rfl⟩ := List.mem_iff_getElem.1 hr
    have hv : v < L.length := by omega
    have h1 := h4.rows.2 v hv
    rw [rowD hv, rowD hve] at h1
    have := h _ (List.getElem_mem hv)
    omega

theorem sMapByConfigs_ok {w : World} {c d c' d' rs a b e s : Sl} {p q : Prob} {rows : List (List Int)} {n : Net} {L : List (List Int)} (h : RProb w c d p) (h' : RProb w c' d' q) (hr : R w rs rows) (hN : RNet w a b e n) (hl : R w s L) :
    Calls Tryz.prog F.s_MapByConfigs #[.agg #[.int .i64 p.labels, .int .i64 p.degree, c.v, d.v], .agg #[.int .i64 q.labels, .int .i64 q.degree, c'.v, d'.v], rs.v, .agg #[a.v, b.v, e.v], s.v] w (Ret [.at .sl, .at .bool] fun (r : Sl) (y : Bool) w' => Ext w w' ∧ ∃ m, R w' r m ∧ AnsG (McAsked p q rows n L) (L.map (rowFor p.nodes rows)) [] m y) := by
  refine C_s_MapByConfigs ?_
  unfold V_s_MapByConfigs
  refine NEW_intro fun pp w1 hp1 hs1 hE1 hb1 => NEW_intro fun pq w2 hp2 hs2 hE2 hb2 => NEW_intro fun pn w3 hp3 hs3 hE3 hb3 => ?_
  intro w4 hE4 _
  have hE := ((hE1.trans hE2).trans hE3).trans hE4
  replace h := h.ext hE
  replace h' := h'.ext hE
  replace hr := hr.ext hE
  replace hN := hN.ext hE
  replace hl := hl.ext hE
  replace hb1 := hb1.ext hE2
  replace hb1 := hb1.ext hE3
  replace hb2 := hb2.ext hE3
  replace hb1 := hb1.ext hE4
  replace hb2 := hb2.ext hE4
  replace hb3 := hb3.ext hE4
  have hni : ∀ {w' : World}, R w' (⟨none, 0, 0⟩ : Sl) ([] : List (List Int)) := fun {w'} => (OutM.nil 0 w').rep
  refine LD_iiss hb1 (LD_iiss hb2 ⟨Ext.refl _, ?_⟩)
  refine call (reTwo_ok h h') ?_
  rintro x w5 ⟨hx, hE5⟩
  replace hE := hE.ext hE5
  replace h := h.ext hE5
  replace h' := h'.ext hE5
  replace hr := hr.ext hE5
  replace hN := hN.ext hE5
  replace hl := hl.ext hE5
  replace hb1 := hb1.ext hE5
  replace hb2 := hb2.ext hE5
  replace hb3 := hb3.ext hE5
  refine ⟨hE5, Ext.refl _, Ext.refl _, ?_⟩
  refine cond_not (fun hfa => ⟨Ext.refl _, Ext.refl _, Ext.refl _, Ext.refl _, Ext.refl _, Ext.refl _, Ext.refl _, hE, [], hni, .no fun hA => (by rw [hx.2 ⟨hA.left, hA.right, hA.deg⟩] at hfa; cases hfa)⟩) (fun ht => LD_iiss hb1 (LD_iiss hb2 ⟨Ext.refl _, ?_⟩))
  have hT := hx.1 ht
  refine call (reRows_ok h h' hT.1 hT.2.1 hT.2.2 hr) ?_
  rintro y w6 ⟨hy, hE6⟩
  replace hE := hE.ext hE6
  replace h := h.ext hE6
  replace h' := h'.ext hE6
  replace hr := hr.ext hE6
  replace hN := hN.ext hE6
  replace hl := hl.ext hE6
  replace hb1 := hb1.ext hE6
  replace hb2 := hb2.ext hE6
  replace hb3 := hb3.ext hE6
  refine ⟨hE6, Ext.refl _, Ext.refl _, Ext.refl _, ?_⟩
  refine cond_not (fun hfa => ⟨Ext.refl _, Ext.refl _, Ext.refl _, Ext.refl _, Ext.refl _, hE, [], hni, .no fun hA => (by rw [hy.2 hA.map] at hfa; cases hfa)⟩) (fun ht2 => LD_iiss hb1 (LD_box3 hb3 ⟨Ext.refl _, ?_⟩))
  have hMp := hy.1 ht2
  refine call (prAsked_ok h hN hl) ?_
  rintro z w7 ⟨hz, hE7⟩
  replace hE := hE.ext hE7
  replace h := h.ext hE7
  replace h' := h'.ext hE7
  replace hr := hr.ext hE7
  replace hN := hN.ext hE7
  replace hl := hl.ext hE7
  replace hb1 := hb1.ext hE7
  replace hb2 := hb2.ext hE7
  replace hb3 := hb3.ext hE7
  refine ⟨hE7, Ext.refl _, Ext.refl _, Ext.refl _, ?_⟩
  refine cond_not (fun hfa => ⟨Ext.refl _, Ext.refl _, Ext.refl _, hE, [], hni, .no fun hA => (by rw [hz.2 ⟨hA.left, hA.good, hA.lab⟩] at hfa; cases hfa)⟩) (fun ht3 => LD_iiss hb1 (LD_box3 hb3 ⟨Ext.refl _, ?_⟩))
  have hS := hz.1 ht3
  refine call (prIs_ok h hS.fin hN hl) ?_
  rintro u w8 ⟨hu, hE8⟩
  replace hE := hE.ext hE8
  replace h := h.ext hE8
  replace h' := h'.ext hE8
  replace hr := hr.ext hE8
  replace hN := hN.ext hE8
  replace hl := hl.ext hE8
  replace hb1 := hb1.ext hE8
  replace hb2 := hb2.ext hE8
  replace hb3 := hb3.ext hE8
  refine ⟨hE8, Ext.refl _, Ext.refl _, Ext.refl _, ?_⟩
  refine cond_not (fun hfa => ⟨Ext.refl _, hE, [], hni, .no fun hA => (by rw [hu.2 hA.clean] at hfa; cases hfa)⟩) (fun ht4 => LD_box3 hb3 (LD_bi1 hb1 (LD_bi1 hb1 ?_)))
  have hCl := hu.1 ht4
  refine call (neDegrees_ok hN hS.good) ?_
  rintro r9 w9 ⟨hE9, hO9⟩
  replace hE := hE.ext hE9
  replace h := h.ext hE9
  replace h' := h'.ext hE9
  replace hr := hr.ext hE9
  replace hN := hN.ext hE9
  replace hl := hl.ext hE9
  replace hb1 := hb1.ext hE9
  replace hb2 := hb2.ext hE9
  replace hb3 := hb3.ext hE9
  refine ⟨hE9, ?_⟩
  have h40 := hS.good.size.2
  refine call (l1All_ok (hO9.rep fun x hx => ?_).any p.degree p.degree) ?_
  · obtain ⟨r, hr', rfl⟩ := List.mem_map.1 hx
    obtain ⟨v, hv, rfl⟩ := List.mem_iff_getElem.1 hr'
    have := hS.good.deg hv
    show I64 _
    unfold I64; omega
  rintro v w10 ⟨hv, rfl⟩
  refine ⟨Ext.refl _, Ext.refl _, Ext.refl _, ?_⟩
  rw [full_iff hS.lab] at hv
  refine cond_not (fun hfa => ⟨hE, [], hni, .no fun hA => (by rw [hv.2 hA.full] at hfa; cases hfa)⟩) (fun ht5 => ?_)
  have hfull := hv.1 ht5
  refine mcRowsS_ok hb1 h hT.1 hr hMp hT.2.2 hl (fun r hr => clean_nodes hS.lab hCl r hr (hfull r hr)) hfull (by have := hS.lab.rows.1; omega) fun r w' hE' hM => ⟨hE.trans hE', _, hM, .yes (.of hT hMp hS.good hS.lab hCl hfull)⟩

end Go.Proofs.YtlmiookpmneicaaGreat
end

section
/- The walk of the law FnExactMapByConfigs. -/
namespace Go.Proofs.YtlmiookpmneicaaGreat
open Go.GX Go.RowKit
set_option maxRecDepth 100000

theorem fnExactMapByConfigs_ok {w : World} {c0 e0 : Sl} {q0 : Prob} {c1 e1 : Sl} {q1 : Prob} {s2 : Sl} {l2 : List (List Int)} {a3 b3 c3 : Sl} {n3 : Net} {s4 : Sl} {l4 : List (List Int)} (h0 : RProb w c0 e0 q0) (h1 : RProb w c1 e1 q1) (h2 : R w s2 l2) (h3 : RNet w a3 b3 c3 n3) (h4 : R w s4 l4) :
    Calls Tryz.prog F.l_FnExactMapByConfigs #[.agg #[.int .i64 q0.labels, .int .i64 q0.degree, c0.v, e0.v], .agg #[.int .i64 q1.labels, .int .i64 q1.degree, c1.v, e1.v], s2.v, .agg #[a3.v, b3.v, c3.v], s4.v] w (Ret [.at .bool] fun (x : Bool) w' => x = true ∧ Ext w w') := by
  refine C_l_FnExactMapByConfigs ?_
  unfold V_l_FnExactMapByConfigs
  refine NEW_intro fun p0 u0 hp0 hs0 hA0 hb0 => ?_
  have hE := hA0
  replace h0 := h0.ext hA0
  replace h1 := h1.ext hA0
  replace h2 := h2.ext hA0
  replace h3 := h3.ext hA0
  replace h4 := h4.ext hA0
  refine NEW_intro fun p1 u1 hp1 hs1 hA1 hb1 => ?_
  replace hE := hE.ext hA1
  replace h0 := h0.ext hA1
  replace h1 := h1.ext hA1
  replace h2 := h2.ext hA1
  replace h3 := h3.ext hA1
  replace h4 := h4.ext hA1
  replace hb0 := hb0.ext hA1
  refine NEW_intro fun p3 u3 hp3 hs3 hA3 hb3 => ?_
  replace hE := hE.ext hA3
  replace h0 := h0.ext hA3
  replace h1 := h1.ext hA3
  replace h2 := h2.ext hA3
  replace h3 := h3.ext hA3
  replace h4 := h4.ext hA3
  replace hb0 := hb0.ext hA3
  replace hb1 := hb1.ext hA3
  refine LD_iiss hb0 ?_
  refine call (szProblem_ok h0 1048576 (by omega) (by omega)) ?_
  rintro z0 x0 ⟨hz0, hB0⟩
  replace hE := hE.ext hB0
  replace h0 := h0.ext hB0
  replace h1 := h1.ext hB0
  replace h2 := h2.ext hB0
  replace h3 := h3.ext hB0
  replace h4 := h4.ext hB0
  replace hb0 := hb0.ext hB0
  replace hb1 := hb1.ext hB0
  replace hb3 := hb3.ext hB0
  refine cond_dec (fun _ => ⟨rfl, hE⟩) (fun hzl0 => ?_)
  have hS0 := (hz0 (by omega)).1
  have hzz0 := (hz0 (by omega)).2
  refine LD_iiss hb1 ?_
  refine call (szProblem_ok h1 z0 (by omega) (by omega)) ?_
  rintro z1 x1 ⟨hz1, hB1⟩
  replace hE := hE.ext hB1
  replace h0 := h0.ext hB1
  replace h1 := h1.ext hB1
  replace h2 := h2.ext hB1
  replace h3 := h3.ext hB1
  replace h4 := h4.ext hB1
  replace hb0 := hb0.ext hB1
  replace hb1 := hb1.ext hB1
  replace hb3 := hb3.ext hB1
  refine cond_dec (fun _ => ⟨rfl, hE⟩) (fun hzl1 => ?_)
  have hS1 := (hz1 (by omega)).1
  have hzz1 := (hz1 (by omega)).2
  refine call (szIntSS_ok h2 z1 (by omega) (by omega)) ?_
  rintro z2 _ ⟨hz2, rfl⟩
  refine cond_dec (fun _ => ⟨rfl, hE⟩) (fun hzl2 => ?_)
  obtain ⟨hzz2, hza2, hzb2⟩ := hz2 (by omega)
  have hS2 : SmallM l2 := ⟨by omega, fun r hr => by have := hzb2 r hr; omega⟩
  refine LD_box3 hb3 ?_
  refine call (szNetwork_at h3 z2 (by omega) (by omega)) ?_
  rintro z3 x3 ⟨hz3, hB3⟩
  replace hE := hE.ext hB3
  replace h0 := h0.ext hB3
  replace h1 := h1.ext hB3
  replace h2 := h2.ext hB3
  replace h3 := h3.ext hB3
  replace h4 := h4.ext hB3
  replace hb0 := hb0.ext hB3
  replace hb1 := hb1.ext hB3
  replace hb3 := hb3.ext hB3
  refine cond_dec (fun _ => ⟨rfl, hE⟩) (fun hzl3 => ?_)
  have hS3 := (hz3 (by omega)).1
  have hzz3 := (hz3 (by omega)).2
  refine call (szIntSS_ok h4 z3 (by omega) (by omega)) ?_
  rintro z4 _ ⟨hz4, rfl⟩
  refine cond_dec (fun _ => ⟨rfl, hE⟩) (fun hzl4 => ?_)
  obtain ⟨hzz4, hza4, hzb4⟩ := hz4 (by omega)
  have hS4 : SmallM l4 := ⟨by omega, fun r hr => by have := hzb4 r hr; omega⟩
  intro wS hGS _
  replace hE := hE.ext hGS
  replace h0 := h0.ext hGS
  replace h1 := h1.ext hGS
  replace h2 := h2.ext hGS
  replace h3 := h3.ext hGS
  replace h4 := h4.ext hGS
  replace hb0 := hb0.ext hGS
  replace hb1 := hb1.ext hGS
  replace hb3 := hb3.ext hGS
  have hReg := Ext.refl wS
  refine LD_iiss hb0 (LD_iiss hb1 (LD_box3 hb3 ?_))
  refine call (toProblem_ok h0 hS0) ?_
  rintro _ _ zs0 us0 ws0 ⟨rfl, rfl, hEs0, hNs0⟩
  replace hE := hE.ext hEs0
  replace h0 := h0.ext hEs0
  replace h1 := h1.ext hEs0
  replace h2 := h2.ext hEs0
  replace h3 := h3.ext hEs0
  replace h4 := h4.ext hEs0
  replace hb0 := hb0.ext hEs0
  replace hb1 := hb1.ext hEs0
  replace hb3 := hb3.ext hEs0
  replace hReg := hReg.ext hEs0
  refine ⟨hReg, ?_⟩
  refine call (toProblem_ok h1 hS1) ?_
  rintro _ _ zs1 us1 ws1 ⟨rfl, rfl, hEs1, hNs1⟩
  replace hE := hE.ext hEs1
  replace h0 := h0.ext hEs1
  replace h1 := h1.ext hEs1
  replace h2 := h2.ext hEs1
  replace h3 := h3.ext hEs1
  replace h4 := h4.ext hEs1
  replace hb0 := hb0.ext hEs1
  replace hb1 := hb1.ext hEs1
  replace hb3 := hb3.ext hEs1
  replace hReg := hReg.ext hEs1
  replace hNs0 := hNs0.ext hEs1
  refine ⟨hReg, ?_⟩
  refine call (toIntSS_own h2 hS2.1 hS2.2) ?_
  rintro ss2 ws2 ⟨hEs2, hOs2⟩
  replace hE := hE.ext hEs2
  replace h0 := h0.ext hEs2
  replace h1 := h1.ext hEs2
  replace h2 := h2.ext hEs2
  replace h3 := h3.ext hEs2
  replace h4 := h4.ext hEs2
  replace hb0 := hb0.ext hEs2
  replace hb1 := hb1.ext hEs2
  replace hb3 := hb3.ext hEs2
  replace hReg := hReg.ext hEs2
  replace hNs0 := hNs0.ext hEs2
  replace hNs1 := hNs1.ext hEs2
  have hRs2 := hOs2.rep (flat_okII h2)
  refine ⟨hReg, ?_⟩
  refine call (toNetwork_ok h3 hS3) ?_
  rintro xs3 ys3 zs3 ws3 ⟨hEs3, hNs3⟩
  replace hE := hE.ext hEs3
  replace h0 := h0.ext hEs3
  replace h1 := h1.ext hEs3
  replace h2 := h2.ext hEs3
  replace h3 := h3.ext hEs3
  replace h4 := h4.ext hEs3
  replace hb0 := hb0.ext hEs3
  replace hb1 := hb1.ext hEs3
  replace hb3 := hb3.ext hEs3
  replace hReg := hReg.ext hEs3
  replace hNs0 := hNs0.ext hEs3
  replace hNs1 := hNs1.ext hEs3
  replace hRs2 := hRs2.ext hEs3
  refine ⟨hReg, ?_⟩
  refine call (toIntSS_own h4 hS4.1 hS4.2) ?_
  rintro ss4 ws4 ⟨hEs4, hOs4⟩
  replace hE := hE.ext hEs4
  replace h0 := h0.ext hEs4
  replace h1 := h1.ext hEs4
  replace h2 := h2.ext hEs4
  replace h3 := h3.ext hEs4
  replace h4 := h4.ext hEs4
  replace hb0 := hb0.ext hEs4
  replace hb1 := hb1.ext hEs4
  replace hb3 := hb3.ext hEs4
  replace hReg := hReg.ext hEs4
  replace hNs0 := hNs0.ext hEs4
  replace hNs1 := hNs1.ext hEs4
  replace hRs2 := hRs2.ext hEs4
  replace hNs3 := hNs3.ext hEs4
  have hRs4 := hOs4.rep (flat_okII h4)
  refine ⟨hReg, ?_⟩
  refine call (sMapByConfigs_ok hNs0 hNs1 hRs2 hNs3 hRs4) ?_
  rintro r10 r11 wA ⟨hCA, r1L0, hL10, hA1⟩
  replace hE := hE.ext hCA
  replace h0 := h0.ext hCA
  replace h1 := h1.ext hCA
  replace h2 := h2.ext hCA
  replace h3 := h3.ext hCA
  replace h4 := h4.ext hCA
  replace hb0 := hb0.ext hCA
  replace hb1 := hb1.ext hCA
  replace hb3 := hb3.ext hCA
  replace hReg := hReg.ext hCA
  replace hNs0 := hNs0.ext hCA
  replace hNs1 := hNs1.ext hCA
  replace hRs2 := hRs2.ext hCA
  replace hNs3 := hNs3.ext hCA
  replace hRs4 := hRs4.ext hCA
  refine ⟨hReg, ?_⟩
  refine ⟨hReg, ?_⟩
  refine ⟨hReg, ?_⟩
  have hX := Ext.refl wA
  refine LD_iiss (hb0.ext hX) ?_
  have hlo0 := hX.size_le
  refine call (toProblem_own (h0.ext hX) hS0) ?_
  rintro _ _ zi0 ui0 wi0 ⟨rfl, rfl, hEi0, mid0, top0, hOP0⟩
  have hls0 := hEi0.size_le
  replace hX := hX.ext hEi0
  have hM0 := hOP0.mnodes
  have hMe0 := hOP0.medges
  have hlm0 := hOP0.lom
  have hmt0 := hOP0.mhi
  have htw0 := hOP0.top
  have hNi0 := hOP0.prob h0
  have hH0 := Ext.refl wi0
  refine NEW_ST (one4p _ _ _ _) rfl fun yi0 vi0 hqi0 hFi0 hc0 => ?_
  replace hX := hX.ext hFi0
  replace hM0 := hM0.ext hFi0
  replace hMe0 := hMe0.ext hFi0
  replace hNi0 := hNi0.ext hFi0
  replace hH0 := hH0.ext hFi0
  refine LD_iiss (hb1.ext hX) ?_
  have hlp1_0 := hH0.size_le
  have hlo1 := hX.size_le
  refine call (toProblem_own (h1.ext hX) hS1) ?_
  rintro _ _ zi1 ui1 wi1 ⟨rfl, rfl, hEi1, mid1, top1, hOP1⟩
  have hls1 := hEi1.size_le
  replace hX := hX.ext hEi1
  replace hM0 := hM0.ext hEi1
  replace hMe0 := hMe0.ext hEi1
  replace hNi0 := hNi0.ext hEi1
  replace hH0 := hH0.ext hEi1
  replace hc0 := hc0.ext hEi1
  have hM1 := hOP1.mnodes
  have hMe1 := hOP1.medges
  have hlm1 := hOP1.lom
  have hmt1 := hOP1.mhi
  have htw1 := hOP1.top
  have hNi1 := hOP1.prob h1
  have hH1 := Ext.refl wi1
  refine NEW_ST (one4p _ _ _ _) rfl fun yi1 vi1 hqi1 hFi1 hc1 => ?_
  replace hX := hX.ext hFi1
  replace hM0 := hM0.ext hFi1
  replace hMe0 := hMe0.ext hFi1
  replace hNi0 := hNi0.ext hFi1
  replace hH0 := hH0.ext hFi1
  replace hc0 := hc0.ext hFi1
  replace hM1 := hM1.ext hFi1
  replace hMe1 := hMe1.ext hFi1
  replace hNi1 := hNi1.ext hFi1
  replace hH1 := hH1.ext hFi1
  have hlp2_0 := hH0.size_le
  have hlp2_1 := hH1.size_le
  have hlo2 := hX.size_le
  refine call (toIntSS_own (h2.ext hX) hS2.1 hS2.2) ?_
  rintro si2 wi2 ⟨hEi2, hOi2⟩
  have hls2 := hEi2.size_le
  replace hX := hX.ext hEi2
  replace hM0 := hM0.ext hEi2
  replace hMe0 := hMe0.ext hEi2
  replace hNi0 := hNi0.ext hEi2
  replace hH0 := hH0.ext hEi2
  replace hc0 := hc0.ext hEi2
  replace hM1 := hM1.ext hEi2
  replace hMe1 := hMe1.ext hEi2
  replace hNi1 := hNi1.ext hEi2
  replace hH1 := hH1.ext hEi2
  replace hc1 := hc1.ext hEi2
  have hRi2 := hOi2.rep (flat_okII h2)
  have hM2 := mintss_of hOi2 hS2.1 hS2.2
  have hH2 := Ext.refl wi2
  refine LD_box3 (hb3.ext hX) ?_
  have hlp3_0 := hH0.size_le
  have hlp3_1 := hH1.size_le
  have hlp3_2 := hH2.size_le
  have hlo3 := hX.size_le
  refine call (toNetwork_own (h3.ext hX) hS3) ?_
  rintro xi3 yi3 zi3 wi3 ⟨hEi3, hON3⟩
  have hls3 := hEi3.size_le
  replace hX := hX.ext hEi3
  replace hM0 := hM0.ext hEi3
  replace hMe0 := hMe0.ext hEi3
  replace hNi0 := hNi0.ext hEi3
  replace hH0 := hH0.ext hEi3
  replace hc0 := hc0.ext hEi3
  replace hM1 := hM1.ext hEi3
  replace hMe1 := hMe1.ext hEi3
  replace hNi1 := hNi1.ext hEi3
  replace hH1 := hH1.ext hEi3
  replace hc1 := hc1.ext hEi3
  replace hRi2 := hRi2.ext hEi3
  replace hM2 := hM2.ext hEi3
  replace hH2 := hH2.ext hEi3
  have hM3 := hON3.mnet hS3
  have hNi3 := hON3.net h3
  have hH3 := Ext.refl wi3
  refine NEW_ST (one3 _ _ _) rfl fun qi3 vi3 hqi3 hFi3 hc3 => ?_
  replace hX := hX.ext hFi3
  replace hM0 := hM0.ext hFi3
  replace hMe0 := hMe0.ext hFi3
  replace hNi0 := hNi0.ext hFi3
  replace hH0 := hH0.ext hFi3
  replace hc0 := hc0.ext hFi3
  replace hM1 := hM1.ext hFi3
  replace hMe1 := hMe1.ext hFi3
  replace hNi1 := hNi1.ext hFi3
  replace hH1 := hH1.ext hFi3
  replace hc1 := hc1.ext hFi3
  replace hRi2 := hRi2.ext hFi3
  replace hM2 := hM2.ext hFi3
  replace hH2 := hH2.ext hFi3
  replace hM3 := hM3.ext hFi3
  replace hNi3 := hNi3.ext hFi3
  replace hH3 := hH3.ext hFi3
  have hlp4_0 := hH0.size_le
  have hlp4_1 := hH1.size_le
  have hlp4_2 := hH2.size_le
  have hlp4_3 := hH3.size_le
  have hlo4 := hX.size_le
  refine call (toIntSS_own (h4.ext hX) hS4.1 hS4.2) ?_
  rintro si4 wi4 ⟨hEi4, hOi4⟩
  have hls4 := hEi4.size_le
  replace hX := hX.ext hEi4
  replace hM0 := hM0.ext hEi4
  replace hMe0 := hMe0.ext hEi4
  replace hNi0 := hNi0.ext hEi4
  replace hH0 := hH0.ext hEi4
  replace hc0 := hc0.ext hEi4
  replace hM1 := hM1.ext hEi4
  replace hMe1 := hMe1.ext hEi4
  replace hNi1 := hNi1.ext hEi4
  replace hH1 := hH1.ext hEi4
  replace hc1 := hc1.ext hEi4
  replace hRi2 := hRi2.ext hEi4
  replace hM2 := hM2.ext hEi4
  replace hH2 := hH2.ext hEi4
  replace hM3 := hM3.ext hEi4
  replace hNi3 := hNi3.ext hEi4
  replace hH3 := hH3.ext hEi4
  replace hc3 := hc3.ext hEi4
  have hRi4 := hOi4.rep (flat_okII h4)
  have hM4 := mintss_of hOi4 hS4.1 hS4.2
  have hH4 := Ext.refl wi4
  refine LD_iiss hc0 ?_
  refine LD_iiss hc1 ?_
  refine LD_box3 hc3 ?_
  have hhi0 := hH0.size_le
  have hhi1 := hH1.size_le
  have hhi2 := hH2.size_le
  have hhi3 := hH3.size_le
  have hhi4 := hH4.size_le
  have hXD := hX.size_le
  refine call (MapByConfigs_ok hNi0 hNi1 hRi2 hNi3 hRi4 hS0 hS1 hS2 hS3 hS4) ?_
  rintro r20 r21 wE ⟨hCE, r2L0, hG20, hA2⟩
  replace hX := hX.ext hCE
  replace hM0 := hM0.ext hCE
  replace hMe0 := hMe0.ext hCE
  replace hNi0 := hNi0.ext hCE
  replace hH0 := hH0.ext hCE
  replace hc0 := hc0.ext hCE
  replace hM1 := hM1.ext hCE
  replace hMe1 := hMe1.ext hCE
  replace hNi1 := hNi1.ext hCE
  replace hH1 := hH1.ext hCE
  replace hc1 := hc1.ext hCE
  replace hRi2 := hRi2.ext hCE
  replace hM2 := hM2.ext hCE
  replace hH2 := hH2.ext hCE
  replace hM3 := hM3.ext hCE
  replace hNi3 := hNi3.ext hCE
  replace hH3 := hH3.ext hCE
  replace hc3 := hc3.ext hCE
  replace hRi4 := hRi4.ext hCE
  replace hM4 := hM4.ext hCE
  replace hH4 := hH4.ext hCE
  obtain ⟨rfl, rfl⟩ := hA1.eq hA2
  refine call (eqIntSS_ok hG20.rep (hL10.ext hX)) ?_
  rintro _ we1 ⟨rfl, hK⟩
  replace hX := hX.ext hK
  replace hM0 := hM0.ext hK
  replace hMe0 := hMe0.ext hK
  replace hNi0 := hNi0.ext hK
  replace hH0 := hH0.ext hK
  replace hc0 := hc0.ext hK
  replace hM1 := hM1.ext hK
  replace hMe1 := hMe1.ext hK
  replace hNi1 := hNi1.ext hK
  replace hH1 := hH1.ext hK
  replace hc1 := hc1.ext hK
  replace hRi2 := hRi2.ext hK
  replace hM2 := hM2.ext hK
  replace hH2 := hH2.ext hK
  replace hM3 := hM3.ext hK
  replace hNi3 := hNi3.ext hK
  replace hH3 := hH3.ext hK
  replace hc3 := hc3.ext hK
  replace hRi4 := hRi4.ext hK
  replace hM4 := hM4.ext hK
  replace hH4 := hH4.ext hK
  replace hG20 := hG20.ext hK
  refine cond_f (by simp) ?_
  refine cond_f (by simp) ?_
  unfold V_l_FnExactMapByConfigs_k6
  intro m0 hG0 _
  replace hX := hX.ext hG0
  replace hM0 := hM0.ext hG0
  replace hMe0 := hMe0.ext hG0
  replace hNi0 := hNi0.ext hG0
  replace hH0 := hH0.ext hG0
  replace hc0 := hc0.ext hG0
  replace hM1 := hM1.ext hG0
  replace hMe1 := hMe1.ext hG0
  replace hNi1 := hNi1.ext hG0
  replace hH1 := hH1.ext hG0
  replace hc1 := hc1.ext hG0
  replace hRi2 := hRi2.ext hG0
  replace hM2 := hM2.ext hG0
  replace hH2 := hH2.ext hG0
  replace hM3 := hM3.ext hG0
  replace hNi3 := hNi3.ext hG0
  replace hH3 := hH3.ext hG0
  replace hc3 := hc3.ext hG0
  replace hRi4 := hRi4.ext hG0
  replace hM4 := hM4.ext hG0
  replace hH4 := hH4.ext hG0
  replace hG20 := hG20.ext hG0
  refine LD_iiss hc0 (LD_iiss (hb0.ext hX) ?_)
  refine ⟨Ext.refl _, call (toProblem_ok (h0.ext hX) hS0) ?_⟩
  rintro _ _ ze0 ue0 we0' ⟨rfl, rfl, hHe0, hNe0⟩
  replace hX := hX.ext hHe0
  replace hM0 := hM0.ext hHe0
  replace hMe0 := hMe0.ext hHe0
  replace hNi0 := hNi0.ext hHe0
  replace hH0 := hH0.ext hHe0
  replace hc0 := hc0.ext hHe0
  replace hM1 := hM1.ext hHe0
  replace hMe1 := hMe1.ext hHe0
  replace hNi1 := hNi1.ext hHe0
  replace hH1 := hH1.ext hHe0
  replace hc1 := hc1.ext hHe0
  replace hRi2 := hRi2.ext hHe0
  replace hM2 := hM2.ext hHe0
  replace hH2 := hH2.ext hHe0
  replace hM3 := hM3.ext hHe0
  replace hNi3 := hNi3.ext hHe0
  replace hH3 := hH3.ext hHe0
  replace hc3 := hc3.ext hHe0
  replace hRi4 := hRi4.ext hHe0
  replace hM4 := hM4.ext hHe0
  replace hH4 := hH4.ext hHe0
  replace hG20 := hG20.ext hHe0
  refine ⟨hHe0, call (eqProblem_ok hNi0 hNe0) ?_⟩
  rintro _ wf0 ⟨rfl, hK0⟩
  replace hX := hX.ext hK0
  replace hM0 := hM0.ext hK0
  replace hMe0 := hMe0.ext hK0
  replace hNi0 := hNi0.ext hK0
  replace hH0 := hH0.ext hK0
  replace hc0 := hc0.ext hK0
  replace hM1 := hM1.ext hK0
  replace hMe1 := hMe1.ext hK0
  replace hNi1 := hNi1.ext hK0
  replace hH1 := hH1.ext hK0
  replace hc1 := hc1.ext hK0
  replace hRi2 := hRi2.ext hK0
  replace hM2 := hM2.ext hK0
  replace hH2 := hH2.ext hK0
  replace hM3 := hM3.ext hK0
  replace hNi3 := hNi3.ext hK0
  replace hH3 := hH3.ext hK0
  replace hc3 := hc3.ext hK0
  replace hRi4 := hRi4.ext hK0
  replace hM4 := hM4.ext hK0
  replace hH4 := hH4.ext hK0
  replace hG20 := hG20.ext hK0
  refine ⟨hHe0.trans hK0, cond_f (by simp) ?_⟩
  intro m1 hG1 _
  replace hX := hX.ext hG1
  replace hM0 := hM0.ext hG1
  replace hMe0 := hMe0.ext hG1
  replace hNi0 := hNi0.ext hG1
  replace hH0 := hH0.ext hG1
  replace hc0 := hc0.ext hG1
  replace hM1 := hM1.ext hG1
  replace hMe1 := hMe1.ext hG1
  replace hNi1 := hNi1.ext hG1
  replace hH1 := hH1.ext hG1
  replace hc1 := hc1.ext hG1
  replace hRi2 := hRi2.ext hG1
  replace hM2 := hM2.ext hG1
  replace hH2 := hH2.ext hG1
  replace hM3 := hM3.ext hG1
  replace hNi3 := hNi3.ext hG1
  replace hH3 := hH3.ext hG1
  replace hc3 := hc3.ext hG1
  replace hRi4 := hRi4.ext hG1
  replace hM4 := hM4.ext hG1
  replace hH4 := hH4.ext hG1
  replace hG20 := hG20.ext hG1
  refine LD_iiss hc1 (LD_iiss (hb1.ext hX) ?_)
  refine ⟨Ext.refl _, call (toProblem_ok (h1.ext hX) hS1) ?_⟩
  rintro _ _ ze1 ue1 we1' ⟨rfl, rfl, hHe1, hNe1⟩
  replace hX := hX.ext hHe1
  replace hM0 := hM0.ext hHe1
  replace hMe0 := hMe0.ext hHe1
  replace hNi0 := hNi0.ext hHe1
  replace hH0 := hH0.ext hHe1
  replace hc0 := hc0.ext hHe1
  replace hM1 := hM1.ext hHe1
  replace hMe1 := hMe1.ext hHe1
  replace hNi1 := hNi1.ext hHe1
  replace hH1 := hH1.ext hHe1
  replace hc1 := hc1.ext hHe1
  replace hRi2 := hRi2.ext hHe1
  replace hM2 := hM2.ext hHe1
  replace hH2 := hH2.ext hHe1
  replace hM3 := hM3.ext hHe1
  replace hNi3 := hNi3.ext hHe1
  replace hH3 := hH3.ext hHe1
  replace hc3 := hc3.ext hHe1
  replace hRi4 := hRi4.ext hHe1
  replace hM4 := hM4.ext hHe1
  replace hH4 := hH4.ext hHe1
  replace hG20 := hG20.ext hHe1
  refine ⟨hHe1, call (eqProblem_ok hNi1 hNe1) ?_⟩
  rintro _ wf1 ⟨rfl, hK1⟩
  replace hX := hX.ext hK1
  replace hM0 := hM0.ext hK1
  replace hMe0 := hMe0.ext hK1
  replace hNi0 := hNi0.ext hK1
  replace hH0 := hH0.ext hK1
  replace hc0 := hc0.ext hK1
  replace hM1 := hM1.ext hK1
  replace hMe1 := hMe1.ext hK1
  replace hNi1 := hNi1.ext hK1
  replace hH1 := hH1.ext hK1
  replace hc1 := hc1.ext hK1
  replace hRi2 := hRi2.ext hK1
  replace hM2 := hM2.ext hK1
  replace hH2 := hH2.ext hK1
  replace hM3 := hM3.ext hK1
  replace hNi3 := hNi3.ext hK1
  replace hH3 := hH3.ext hK1
  replace hc3 := hc3.ext hK1
  replace hRi4 := hRi4.ext hK1
  replace hM4 := hM4.ext hK1
  replace hH4 := hH4.ext hK1
  replace hG20 := hG20.ext hK1
  refine ⟨hHe1.trans hK1, cond_f (by simp) ?_⟩
  refine call (toIntSS_own (h2.ext hX) hS2.1 hS2.2) ?_
  rintro se2 we2' ⟨hHe2, hOe2⟩
  replace hX := hX.ext hHe2
  replace hM0 := hM0.ext hHe2
  replace hMe0 := hMe0.ext hHe2
  replace hNi0 := hNi0.ext hHe2
  replace hH0 := hH0.ext hHe2
  replace hc0 := hc0.ext hHe2
  replace hM1 := hM1.ext hHe2
  replace hMe1 := hMe1.ext hHe2
  replace hNi1 := hNi1.ext hHe2
  replace hH1 := hH1.ext hHe2
  replace hc1 := hc1.ext hHe2
  replace hRi2 := hRi2.ext hHe2
  replace hM2 := hM2.ext hHe2
  replace hH2 := hH2.ext hHe2
  replace hM3 := hM3.ext hHe2
  replace hNi3 := hNi3.ext hHe2
  replace hH3 := hH3.ext hHe2
  replace hc3 := hc3.ext hHe2
  replace hRi4 := hRi4.ext hHe2
  replace hM4 := hM4.ext hHe2
  replace hH4 := hH4.ext hHe2
  replace hG20 := hG20.ext hHe2
  refine call (eqIntSS_ok hRi2 (hOe2.rep (flat_okII h2))) ?_
  rintro _ wf2 ⟨rfl, hK2⟩
  replace hX := hX.ext hK2
  replace hM0 := hM0.ext hK2
  replace hMe0 := hMe0.ext hK2
  replace hNi0 := hNi0.ext hK2
  replace hH0 := hH0.ext hK2
  replace hc0 := hc0.ext hK2
  replace hM1 := hM1.ext hK2
  replace hMe1 := hMe1.ext hK2
  replace hNi1 := hNi1.ext hK2
  replace hH1 := hH1.ext hK2
  replace hc1 := hc1.ext hK2
  replace hRi2 := hRi2.ext hK2
  replace hM2 := hM2.ext hK2
  replace hH2 := hH2.ext hK2
  replace hM3 := hM3.ext hK2
  replace hNi3 := hNi3.ext hK2
  replace hH3 := hH3.ext hK2
  replace hc3 := hc3.ext hK2
  replace hRi4 := hRi4.ext hK2
  replace hM4 := hM4.ext hK2
  replace hH4 := hH4.ext hK2
  replace hG20 := hG20.ext hK2
  refine cond_f (by simp) ?_
  intro m3 hG3 _
  replace hX := hX.ext hG3
  replace hM0 := hM0.ext hG3
  replace hMe0 := hMe0.ext hG3
  replace hNi0 := hNi0.ext hG3
  replace hH0 := hH0.ext hG3
  replace hc0 := hc0.ext hG3
  replace hM1 := hM1.ext hG3
  replace hMe1 := hMe1.ext hG3
  replace hNi1 := hNi1.ext hG3
  replace hH1 := hH1.ext hG3
  replace hc1 := hc1.ext hG3
  replace hRi2 := hRi2.ext hG3
  replace hM2 := hM2.ext hG3
  replace hH2 := hH2.ext hG3
  replace hM3 := hM3.ext hG3
  replace hNi3 := hNi3.ext hG3
  replace hH3 := hH3.ext hG3
  replace hc3 := hc3.ext hG3
  replace hRi4 := hRi4.ext hG3
  replace hM4 := hM4.ext hG3
  replace hH4 := hH4.ext hG3
  replace hG20 := hG20.ext hG3
  refine LD_box3 hc3 (LD_box3 (hb3.ext hX) ?_)
  refine ⟨Ext.refl _, call (toNetwork_ok (h3.ext hX) hS3) ?_⟩
  rintro xe3 ye3 ze3 we3' ⟨hHe3, hNe3⟩
  replace hX := hX.ext hHe3
  replace hM0 := hM0.ext hHe3
  replace hMe0 := hMe0.ext hHe3
  replace hNi0 := hNi0.ext hHe3
  replace hH0 := hH0.ext hHe3
  replace hc0 := hc0.ext hHe3
  replace hM1 := hM1.ext hHe3
  replace hMe1 := hMe1.ext hHe3
  replace hNi1 := hNi1.ext hHe3
  replace hH1 := hH1.ext hHe3
  replace hc1 := hc1.ext hHe3
  replace hRi2 := hRi2.ext hHe3
  replace hM2 := hM2.ext hHe3
  replace hH2 := hH2.ext hHe3
  replace hM3 := hM3.ext hHe3
  replace hNi3 := hNi3.ext hHe3
  replace hH3 := hH3.ext hHe3
  replace hc3 := hc3.ext hHe3
  replace hRi4 := hRi4.ext hHe3
  replace hM4 := hM4.ext hHe3
  replace hH4 := hH4.ext hHe3
  replace hG20 := hG20.ext hHe3
  refine ⟨hHe3, call (eqNetwork_ok hNi3 hNe3) ?_⟩
  rintro _ wf3 ⟨rfl, hK3⟩
  replace hX := hX.ext hK3
  replace hM0 := hM0.ext hK3
  replace hMe0 := hMe0.ext hK3
  replace hNi0 := hNi0.ext hK3
  replace hH0 := hH0.ext hK3
  replace hc0 := hc0.ext hK3
  replace hM1 := hM1.ext hK3
  replace hMe1 := hMe1.ext hK3
  replace hNi1 := hNi1.ext hK3
  replace hH1 := hH1.ext hK3
  replace hc1 := hc1.ext hK3
  replace hRi2 := hRi2.ext hK3
  replace hM2 := hM2.ext hK3
  replace hH2 := hH2.ext hK3
  replace hM3 := hM3.ext hK3
  replace hNi3 := hNi3.ext hK3
  replace hH3 := hH3.ext hK3
  replace hc3 := hc3.ext hK3
  replace hRi4 := hRi4.ext hK3
  replace hM4 := hM4.ext hK3
  replace hH4 := hH4.ext hK3
  replace hG20 := hG20.ext hK3
  refine ⟨hHe3.trans hK3, cond_f (by simp) ?_⟩
  refine call (toIntSS_own (h4.ext hX) hS4.1 hS4.2) ?_
  rintro se4 we4' ⟨hHe4, hOe4⟩
  replace hX := hX.ext hHe4
  replace hM0 := hM0.ext hHe4
  replace hMe0 := hMe0.ext hHe4
  replace hNi0 := hNi0.ext hHe4
  replace hH0 := hH0.ext hHe4
  replace hc0 := hc0.ext hHe4
  replace hM1 := hM1.ext hHe4
  replace hMe1 := hMe1.ext hHe4
  replace hNi1 := hNi1.ext hHe4
  replace hH1 := hH1.ext hHe4
  replace hc1 := hc1.ext hHe4
  replace hRi2 := hRi2.ext hHe4
  replace hM2 := hM2.ext hHe4
  replace hH2 := hH2.ext hHe4
  replace hM3 := hM3.ext hHe4
  replace hNi3 := hNi3.ext hHe4
  replace hH3 := hH3.ext hHe4
  replace hc3 := hc3.ext hHe4
  replace hRi4 := hRi4.ext hHe4
  replace hM4 := hM4.ext hHe4
  replace hH4 := hH4.ext hHe4
  replace hG20 := hG20.ext hHe4
  refine call (eqIntSS_ok hRi4 (hOe4.rep (flat_okII h4))) ?_
  rintro _ wf4 ⟨rfl, hK4⟩
  replace hX := hX.ext hK4
  replace hM0 := hM0.ext hK4
  replace hMe0 := hMe0.ext hK4
  replace hNi0 := hNi0.ext hK4
  replace hH0 := hH0.ext hK4
  replace hc0 := hc0.ext hK4
  replace hM1 := hM1.ext hK4
  replace hMe1 := hMe1.ext hK4
  replace hNi1 := hNi1.ext hK4
  replace hH1 := hH1.ext hK4
  replace hc1 := hc1.ext hK4
  replace hRi2 := hRi2.ext hK4
  replace hM2 := hM2.ext hK4
  replace hH2 := hH2.ext hK4
  replace hM3 := hM3.ext hK4
  replace hNi3 := hNi3.ext hK4
  replace hH3 := hH3.ext hK4
  replace hc3 := hc3.ext hK4
  replace hRi4 := hRi4.ext hK4
  replace hM4 := hM4.ext hK4
  replace hH4 := hH4.ext hK4
  replace hG20 := hG20.ext hK4
  refine cond_f (by simp) ?_
  refine LD_iiss hc0 ?_
  refine call (markProblem_ok hM0 hMe0 hlm0 hmt0 (by have := hH0.size_le; omega) _ (by omega) (by omega)) ?_
  rintro k0 wm0 ⟨hk0, hkk0, hSh, hCh⟩
  have hzk0 := hCh.size
  replace hX := hCh.extR hX (by omega)
  replace hG20 := hG20.chgR hCh (by omega)
  replace hM1 := hM1.chg hSh hCh (by omega)
  replace hMe1 := hMe1.chg hSh hCh (by omega)
  replace hc1 := hc1.chg hCh (by omega)
  replace hM2 := hM2.chg hSh hCh (by omega)
  replace hM3 := hM3.chg hSh hCh (by omega)
  replace hc3 := hc3.chg hCh (by omega)
  replace hM4 := hM4.chg hSh hCh (by omega)
  refine LD_iiss hc1 ?_
  refine call (markProblem_ok hM1 hMe1 hlm1 hmt1 (by have := hH1.size_le; omega) _ (by omega) (by omega)) ?_
  rintro k1 wm1 ⟨hk1, hkk1, hSh, hCh⟩
  have hzk1 := hCh.size
  replace hX := hCh.extR hX (by omega)
  replace hG20 := hG20.chgR hCh (by omega)
  replace hM2 := hM2.chg hSh hCh (by omega)
  replace hM3 := hM3.chg hSh hCh (by omega)
  replace hc3 := hc3.chg hCh (by omega)
  replace hM4 := hM4.chg hSh hCh (by omega)
  refine call (markIntSS_ok hM2 _ (by omega) (by omega)) ?_
  rintro k2 wm2 ⟨hk2, hkk2, hSh, hCh⟩
  have hzk2 := hCh.size
  replace hX := hCh.extR hX (by omega)
  replace hG20 := hG20.chgR hCh (by omega)
  replace hM3 := hM3.chg hSh hCh (by omega)
  replace hc3 := hc3.chg hCh (by omega)
  replace hM4 := hM4.chg hSh hCh (by omega)
  refine LD_box3 hc3 ?_
  refine call (markNetwork_at _ (by omega) (by omega) hM3 (by have := hH3.size_le; omega)) ?_
  rintro k3 wm3 ⟨hk3, hkk3, hSh, hCh⟩
  have hzk3 := hCh.size
  replace hX := hCh.extR hX (by omega)
  replace hG20 := hG20.chgR hCh (by omega)
  replace hM4 := hM4.chg hSh hCh (by omega)
  refine call (markIntSS_ok hM4 _ (by omega) (by omega)) ?_
  rintro k4 wm4 ⟨hk4, hkk4, hSh, hCh⟩
  have hzk4 := hCh.size
  replace hX := hCh.extR hX (by omega)
  replace hG20 := hG20.chgR hCh (by omega)
  refine cond_df (by omega) ?_
  refine call (eqIntSS_ok hG20.rep (hL10.ext hX)) ?_
  rintro _ we2 ⟨rfl, hK⟩
  replace hX := hX.ext hK
  replace hG20 := hG20.ext hK
  refine cond_f (by simp) ?_
  refine cond_f (by simp) ?_
  unfold V_l_FnExactMapByConfigs_k13
  have hl0 := hG20.rows
  have hll0 := hG20.small
  have hpl0 := pre_le hll0 _ (Nat.le_refl _)
  refine call (markIntSS_out hG20 1 (by omega) (by omega)) ?_
  rintro mk0 wg0 ⟨hmk0, hMk0, hSt⟩
  replace hX := hSt.extB hX (by omega)
  refine call (heldIntSS_ok 1 hMk0 (by omega) (by omega) hl0 hll0) ?_
  rintro _ _ ⟨rfl, rfl⟩
  refine cond_df (by omega) ?_
  refine cond_f (by simp [hmk0]) ?_
  intro wT hGT _
  replace hX := hX.ext hGT
  replace hMk0 := hMk0.ext hGT
  have hReg := Ext.refl wT
  refine LD_iiss (hb0.ext hX) (LD_iiss (hb1.ext hX) (LD_box3 (hb3.ext hX) ?_))
  refine call (toProblem_ok (h0.ext hX) hS0) ?_
  rintro _ _ zj0 uj0 wj0 ⟨rfl, rfl, hEj0, hNj0⟩
  replace hX := hX.ext hEj0
  replace hMk0 := hMk0.ext hEj0
  replace hReg := hReg.ext hEj0
  refine ⟨hReg, ?_⟩
  refine call (toProblem_ok (h1.ext hX) hS1) ?_
  rintro _ _ zj1 uj1 wj1 ⟨rfl, rfl, hEj1, hNj1⟩
  replace hX := hX.ext hEj1
  replace hMk0 := hMk0.ext hEj1
  replace hReg := hReg.ext hEj1
  replace hNj0 := hNj0.ext hEj1
  refine ⟨hReg, ?_⟩
  refine call (toIntSS_own (h2.ext hX) hS2.1 hS2.2) ?_
  rintro sj2 wj2 ⟨hEj2, hOj2⟩
  replace hX := hX.ext hEj2
  replace hMk0 := hMk0.ext hEj2
  replace hReg := hReg.ext hEj2
  replace hNj0 := hNj0.ext hEj2
  replace hNj1 := hNj1.ext hEj2
  have hRj2 := hOj2.rep (flat_okII h2)
  refine ⟨hReg, ?_⟩
  refine call (toNetwork_ok (h3.ext hX) hS3) ?_
  rintro xj3 yj3 zj3 wj3 ⟨hEj3, hNj3⟩
  replace hX := hX.ext hEj3
  replace hMk0 := hMk0.ext hEj3
  replace hReg := hReg.ext hEj3
  replace hNj0 := hNj0.ext hEj3
  replace hNj1 := hNj1.ext hEj3
  replace hRj2 := hRj2.ext hEj3
  refine ⟨hReg, ?_⟩
  refine call (toIntSS_own (h4.ext hX) hS4.1 hS4.2) ?_
  rintro sj4 wj4 ⟨hEj4, hOj4⟩
  replace hX := hX.ext hEj4
  replace hMk0 := hMk0.ext hEj4
  replace hReg := hReg.ext hEj4
  replace hNj0 := hNj0.ext hEj4
  replace hNj1 := hNj1.ext hEj4
  replace hRj2 := hRj2.ext hEj4
  replace hNj3 := hNj3.ext hEj4
  have hRj4 := hOj4.rep (flat_okII h4)
  refine ⟨hReg, ?_⟩
  refine call (MapByConfigs_ok hNj0 hNj1 hRj2 hNj3 hRj4 hS0 hS1 hS2 hS3 hS4) ?_
  rintro r30 r31 wH ⟨hCH, r3L0, hG30, hA3⟩
  replace hX := hX.ext hCH
  replace hMk0 := hMk0.ext hCH
  replace hReg := hReg.ext hCH
  replace hNj0 := hNj0.ext hCH
  replace hNj1 := hNj1.ext hCH
  replace hRj2 := hRj2.ext hCH
  replace hNj3 := hNj3.ext hCH
  replace hRj4 := hRj4.ext hCH
  refine ⟨hReg, ?_⟩
  refine ⟨hReg, ?_⟩
  refine ⟨hReg, ?_⟩
  obtain ⟨rfl, rfl⟩ := hA1.eq hA3
  refine call (eqIntSS_ok hG30.rep (hL10.ext hX)) ?_
  rintro _ we3 ⟨rfl, hK⟩
  replace hX := hX.ext hK
  replace hMk0 := hMk0.ext hK
  replace hNj0 := hNj0.ext hK
  replace hNj1 := hNj1.ext hK
  replace hRj2 := hRj2.ext hK
  replace hNj3 := hNj3.ext hK
  replace hRj4 := hRj4.ext hK
  replace hG30 := hG30.ext hK
  refine cond_f (by simp) ?_
  refine cond_f (by simp) ?_
  refine call (heldIntSS_ok 1 hMk0 (by omega) (by omega) hl0 hll0) ?_
  rintro _ _ ⟨rfl, rfl⟩
  refine cond_df (by omega) ?_
  refine cond_f (by simp [hmk0]) ?_
  exact ⟨rfl, hE.trans hX⟩

end Go.Proofs.YtlmiookpmneicaaGreat
end

section
/- Facts of this seat's program that every claim's last step asks for, each computed once (together they need more memory than a text may use). -/
namespace Go.Proofs.YtlmiookpmneicaaGreat


theorem door_enters : Tryz.pinned.checked.prog.mayEnter = true := by kernel_rfl

theorem door_lifts : Tryz.pinned.checked.prog.liftsFinal = false := by kernel_rfl

theorem door_heard : Tryz.pinned.checked.prog.stopsHeard = true := by kernel_rfl

theorem door_laid : laidOutB Tryz.pinned.checked.prog = true := by kernel_rfl

theorem door_maps : mapsRowed Tryz.pinned.checked.prog = true := by kernel_rfl

end Go.Proofs.YtlmiookpmneicaaGreat
end
