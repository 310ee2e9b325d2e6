/- Contracts of functions of the library: Mul, Repeat. -/
import Derived.Test.YtjfodknpphhajaaGreatColl
import Derived.Test.YtjfodknpphhajaaGreatCopy
namespace Go.Proofs.YtjfodknpphhajaaGreat
open Go.GX Go.RowKit
set_option maxRecDepth 100000

theorem repl_step {n k : Nat} {v : Int} (hk : k ≤ n) (h0 : 0 < k) : ((List.replicate k v ++ List.replicate (n - k) 0).take k ++ (List.replicate k v).take (n - k) ++ (List.replicate k v ++ List.replicate (n - k) 0).drop (k + min (List.replicate k v).length (n - k))) = List.replicate (k + min k (n - k)) v ++ List.replicate (n - (k + min k (n - k))) (0 : Int) := by
  simp only [List.length_replicate]
  rw [List.take_append_of_le_length (by simp), List.take_replicate, Nat.min_self, List.take_replicate, List.drop_append, List.drop_eq_nil_of_le (by simp), List.nil_append, List.drop_replicate, List.length_replicate, List.replicate_append_replicate]
  congr 2
  · omega
  · omega

theorem l1Own_ok {w : World} {s : Sl} {l : List Int} (h : R w s l) (hl : l.length ≤ 1048576) :
    Calls Tryz.prog F.s_l1Own #[s.v] w (Ret [.at .sl] fun (r : Sl) w' => Ext w w' ∧ OwnL w' w.heap.size T.t_int r l) := by
  refine C_s_l1Own ?_
  unfold V_s_l1Own
  refine RUN_lit0 (α := Int) slt_int fun r w1 hE1 hO1 => ?_
  refine RUN_append (α := Int) slt_int hO1 hE1.size (h.ext hE1) (by simp; omega) (by simp [maxLen]; omega) fun r' w2 hO2 hs => ?_
  exact ⟨hs.ext0 hE1 (fun k hk => (hO1.blk k hk).1), by simpa using hO2⟩

end Go.Proofs.YtjfodknpphhajaaGreat
