/- Slices that may be written, whatever they hold: the marks that a law leaves in its arguments and answers. No program is named here. -/
import Derived.Test.YtjfodknpphhajaaGreatRules
namespace Go.GX
open Go.RowKit

/-- Each cell of the slice may be written. -/
def Wr (w : World) (s : Sl) (sz : Nat) : Prop := ∀ j, j < s.len * sz → ∃ a, s.a = some a ∧ (∃ old, w.cell? (a.add j) = some old) ∧ w.frozen? (a.add j) = false

/-- No cell goes, none is frozen. -/
def Shp (w w' : World) : Prop := (∀ a old, w.cell? a = some old → ∃ new, w'.cell? a = some new) ∧ ∀ a, w.frozen? a = false → (∃ old, w.cell? a = some old) → w'.frozen? a = false

theorem Shp.refl (w : World) : Shp w w := ⟨fun _ old h => ⟨old, h⟩, fun _ h _ => h⟩
theorem Shp.trans {a b c : World} (h : Shp a b) (k : Shp b c) : Shp a c :=
  ⟨fun p old hp => by obtain ⟨n, hn⟩ := h.1 p old hp; exact k.1 p n hn, fun p hf ⟨old, hp⟩ => k.2 p (h.2 p hf ⟨old, hp⟩) (h.1 p old hp)⟩
theorem Shp.setCell (w : World) (p : Addr) (v : Value) : Shp w (w.setCell p v) :=
  ⟨fun a old h => by
    by_cases hp : p = a
    · subst hp; exact ⟨v, World.cell?_setCell_same w p v h⟩
    · exact ⟨old, by rw [World.cell?_setCell_other w p a v hp]; exact h⟩, fun a h _ => by rw [World.frozen?_setCell]; exact h⟩
theorem Shp.ext {w w' : World} (h : Ext w w') : Shp w w' :=
  ⟨fun a old ho => ⟨old, h.cell ho⟩, fun a hf ⟨old, ho⟩ => by
    have hb : w'.heap[a.block]? = w.heap[a.block]? := h.same (cell_lt ho)
    unfold World.frozen? at hf ⊢
    rw [hb]; exact hf⟩

theorem Wr.shp {w w' : World} {s : Sl} {sz : Nat} (h : Wr w s sz) (hs : Shp w w') : Wr w' s sz := fun j hj => by
  obtain ⟨a, ha, ⟨old, hc⟩, hf⟩ := h j hj
  exact ⟨a, ha, hs.1 _ _ hc, hs.2 _ hf ⟨old, hc⟩⟩

theorem OwnL.wr {α : Type} [Flat α] {w : World} {base : Nat} {e : TypeId} {s : Sl} {l : List α} (h : OwnL w base e s l) : Wr w s (Rep.sz α) := fun j hj => by
  rcases h.2.2 with ⟨hv, h0⟩ | ⟨g, cap, cur, hv, hb, hg, hle, _, hsz, htake⟩
  · rw [h0] at hj; simp at hj
  · simp [Sl.v] at hv
    obtain ⟨ha, rfl⟩ := hv
    have hlen := h.2.length
    have hlt : j < (l.flatMap Flat.cells).length := by rw [hlen]; exact hj
    have hown : w.ownsRow base e (Rep.sz α) s.v s.len (l.flatMap Flat.cells) := h.2
    refine ⟨_, ha, ⟨_, World.ownsRow.cells hown (g := g) (by simp [Sl.v, ha, Value.ownBlock]) j _ (List.getElem?_eq_getElem hlt)⟩, ?_⟩
    simp [World.frozen?, add_block, hg]

/-- The block of a slice. -/
def blkOf (s : Sl) (b : Nat) : Prop := ∃ a, s.a = some a ∧ a.block = b

/-- One cell written. -/
theorem ST_wr1 {w : World} {s : Sl} {sz i : Nat} (h : Wr w s sz) {a : Addr} (ha : s.a = some a) {p : Addr} {k : Nat} (hp : p.add k = a.add i) (hi : i < s.len * sz) {v : Value} (h1 : v.oneCell' = true) {K : World → Prop}
    (hk : ∀ w', Shp w w' → Chg w w' (blkOf s) → w'.heap.size = w.heap.size → K w') : ST p k [v] w K := by
  obtain ⟨a', ha', hc, hf⟩ := h i hi
  rw [ha] at ha'; cases ha'
  refine ⟨h1, by rw [hp]; exact hc, by rw [hp]; exact hf, ?_⟩
  rw [hp]
  refine hk _ (Shp.setCell _ _ _) ⟨rfl, rfl, rfl, by rw [setCell_size]; exact Nat.le_refl _, fun b _ hD => ?_⟩ (setCell_size _ _ _)
  refine setCell_other _ _ _ fun he => hD ⟨a, ha, ?_⟩
  rw [he, add_block]

theorem IX_wr {w : World} {s : Sl} {sz i : Nat} (h : Wr w s sz) (hsz : 0 < sz) (hi : i < s.len) {K : Addr → Prop} (hk : ∀ a, s.a = some a → K (a.add (i * sz))) : IX s i sz K := by
  have hj : i * sz < s.len * sz := Nat.mul_lt_mul_of_pos_right hi hsz
  obtain ⟨a, ha, _⟩ := h _ hj
  exact ⟨a, ha, by omega, by omega, by simpa using hk a ha⟩

/-- Numbers in a row. -/
def marks (k : Int) (n : Nat) : List Int := (List.range n).map fun (i : Nat) => k + (i : Int)

theorem marks_length (k : Int) (n : Nat) : (marks k n).length = n := by simp [marks]
theorem marks_get (k : Int) (n i : Nat) (h : i < (marks k n).length) : (marks k n)[i] = k + i := by simp [marks]
theorem marks_I64 {k : Int} {n : Nat} (h0 : 0 ≤ k) (h1 : k + n ≤ 9223372036854775807) : ∀ x ∈ marks k n, I64 x := fun x hx => by
  simp [marks] at hx
  obtain ⟨i, hi, rfl⟩ := hx
  unfold I64; omega

theorem marks_step {k : Int} {l : List Int} {i : Nat} (hi : i < l.length) : (marks k i ++ l.drop i).set i (k + i) = marks k (i + 1) ++ l.drop (i + 1) := by
  have h1 : (marks k i).length = i := marks_length _ _
  rw [List.set_append_right _ _ (by omega), h1, Nat.sub_self, List.drop_eq_getElem_cons hi, List.set_cons_zero]
  simp [marks, List.range_succ]

theorem Chg.extR {w0 w w' : World} {lo hi : Nat} (h : Chg w w' (fun b => lo ≤ b ∧ b < hi)) (hE : Ext w0 w) (hl : w0.heap.size ≤ lo) : Ext w0 w' := h.ext0 hE fun k hk => by have := hk.1; omega
theorem Chg.extB {w0 w w' : World} {lo : Nat} (h : Chg w w' (fun b => lo ≤ b)) (hE : Ext w0 w) (hl : w0.heap.size ≤ lo) : Ext w0 w' := h.ext0 hE fun k hk => by have : lo ≤ k := hk; omega

/-! ### Lists that are filled from the front -/

def mapTo {α : Type} (f : Nat → α) (l : List α) (i : Nat) : List α := (List.range i).map f ++ l.drop i
theorem mapTo_zero {α : Type} (f : Nat → α) (l : List α) : mapTo f l 0 = l := by simp [mapTo]
theorem mapTo_len {α : Type} (f : Nat → α) {l : List α} {i : Nat} (hi : i ≤ l.length) : (mapTo f l i).length = l.length := by simp [mapTo]; omega
theorem mapTo_set {α : Type} (f : Nat → α) {l : List α} {i : Nat} (hi : i < l.length) : (mapTo f l i).set i (f i) = mapTo f l (i + 1) := by
  unfold mapTo
  rw [List.set_append_right _ _ (by simp), List.length_map, List.length_range, Nat.sub_self, List.drop_eq_getElem_cons hi, List.set_cons_zero, List.range_succ, List.map_append, List.append_assoc]
  rfl
theorem mapTo_same {α : Type} (f : Nat → α) {l : List α} {i : Nat} (hi : i < l.length) (h : f i = l[i]) : mapTo f l i = mapTo f l (i + 1) := by
  unfold mapTo
  rw [List.drop_eq_getElem_cons hi, List.range_succ, List.map_append, List.append_assoc, ← h]
  rfl
theorem mapTo_all {α : Type} (f : Nat → α) (l : List α) : mapTo f l l.length = (List.range l.length).map f := by simp [mapTo]
theorem mapTo_mem {α : Type} {f : Nat → α} {l : List α} {p : α → Prop} (hf : ∀ i < l.length, p (f i)) (hl : ∀ x ∈ l, p x) {i : Nat} (hi : i ≤ l.length) : ∀ x ∈ mapTo f l i, p x := fun x hx => by
  rcases List.mem_append.1 hx with h1 | h1
  · obtain ⟨j, hj, rfl⟩ := List.mem_map.1 h1
    exact hf j (by simp at hj; omega)
  · exact hl x (List.mem_of_mem_drop h1)

/-! ### Boxes and lists of the call's own, apart by their types -/

def oB (s : Sl) (b : Nat) : Prop := s.v.ownBlock = some b

theorem oB_of {r s : Sl} (h : r.a = s.a) {k : Nat} : oB r k ↔ oB s k := by
  unfold oB Sl.v
  rw [h]
  cases s.a <;> simp [Value.ownBlock]

theorem Box.notOwn {w : World} {p : Addr} {t : TypeId} {cs : List Value} {α : Type} [Flat α] {base : Nat} {e : TypeId} {s : Sl} {l : List α} (h : Box w p t cs) (hO : OwnL w base e s l) (hne : t ≠ e) : ¬ oB s p.block := fun he => by
  obtain ⟨c1, e1⟩ := hO.type he
  rw [h.2.2] at e1
  exact hne (Obj.cells.inj (Option.some.inj e1)).2.1

theorem Box.stepT {w w' : World} {p : Addr} {t : TypeId} {cs : List Value} {α : Type} [Flat α] {base : Nat} {e : TypeId} {s : Sl} {l : List α} (h : Box w p t cs) (hO : OwnL w base e s l) (hne : t ≠ e) (hs : Step w w' s.v.ownBlock) : Box w' p t cs :=
  h.of_block (hs.block _ h.lt fun he => h.notOwn hO hne he.symm)

theorem OwnL.stepB {w w' : World} {p : Addr} {t : TypeId} {cs : List Value} {α : Type} [Flat α] {base : Nat} {e : TypeId} {s : Sl} {l : List α} (hO : OwnL w base e s l) (h : Box w p t cs) (hne : t ≠ e) (hs : Step w w' (some p.block)) : OwnL w' base e s l :=
  hO.keep fun k hk => hs.block k (hO.blk k hk).2 fun he => h.notOwn hO hne (by cases he; exact hk)

theorem SlR.stepD {α : Type} [RepP α] {D : Nat → Prop} {w w' : World} {s : Sl} {l : List α} {g : Option Nat} (h : SlR D w s l) (hs : Step w w' g) (hD : ∀ b, D b → g ≠ some b) : SlR D w' s l :=
  (h.below.agr fun b hb => hs.block b hb.2 fun he => hD b hb.1 he.symm).weak (fun _ hb _ => hb.1) RepP.pos

/-! ### Answers that hold only where something holds -/

structure AnsG {α : Type} (g : Prop) (x d y : α) (ok : Bool) : Prop where
  ok : ok = true ↔ g
  val : g → y = x
  non : ¬ g → y = d

theorem AnsG.yes {α : Type} {g : Prop} {x d : α} (h : g) : AnsG g x d x true := ⟨by simp [h], fun _ => rfl, fun hn => absurd h hn⟩
theorem AnsG.no {α : Type} {g : Prop} {x d : α} (h : ¬ g) : AnsG g x d d false := ⟨by simp [h], fun hg => absurd hg h, fun _ => rfl⟩
theorem AnsG.eq {α : Type} {g : Prop} {x d y y' : α} {ok ok' : Bool} (h : AnsG g x d y ok) (h' : AnsG g x d y' ok') : y = y' ∧ ok = ok' := by
  constructor
  · by_cases hg : g
    · rw [h.val hg, h'.val hg]
    · rw [h.non hg, h'.non hg]
  · rw [Bool.eq_iff_iff, h.ok, h'.ok]

end Go.GX
