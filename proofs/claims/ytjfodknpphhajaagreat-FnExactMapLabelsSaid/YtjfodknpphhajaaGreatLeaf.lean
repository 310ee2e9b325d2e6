/- Contracts of the small functions. -/
import Derived.Test.YtjfodknpphhajaaGreatAllV
import Derived.Test.YtjfodknpphhajaaGreatRules
namespace Go.Proofs.YtjfodknpphhajaaGreat
open Go.GX Go.RowKit

def inR (n lo hi : Int) : Bool := decide (lo ≤ n) && decide (n ≤ hi)

theorem inR_true {n lo hi : Int} (h : inR n lo hi = true) : lo ≤ n ∧ n ≤ hi := by simpa [inR] using h
theorem inR_false {n lo hi : Int} (h : inR n lo hi = false) : ¬ (lo ≤ n ∧ n ≤ hi) := by
  intro ⟨h1, h2⟩; simp [inR, h1, h2] at h

theorem within_ok (n lo hi : Int) (w : World) : Calls Tryz.prog F.i_within #[.int .i64 n, .int .i64 lo, .int .i64 hi] w (Ret [.at .bool] fun (b : Bool) w' => b = inR n lo hi ∧ w = w') := by
  refine C_i_within ?_
  unfold V_i_within inR
  by_cases h : lo ≤ n <;> simp [h]

theorem l1In_ok (n lo hi : Int) (w : World) : Calls Tryz.prog F.s_l1In #[.int .i64 n, .int .i64 lo, .int .i64 hi] w (Ret [.at .bool] fun (b : Bool) w' => b = inR n lo hi ∧ w = w') := by
  refine C_s_l1In ?_
  unfold V_s_l1In inR
  by_cases h : lo ≤ n <;> simp [h]

theorem l1Has_ok {w : World} {s : Sl} {l : List Int} (h : R w s l) (n : Int) :
    Calls Tryz.prog F.s_l1Has #[s.v, .int .i64 n] w (Ret [.at .bool] fun (b : Bool) w' => b = l.contains n ∧ w = w') := by
  refine C_s_l1Has ?_
  unfold V_s_l1Has
  refine ⟨IN l.length fun i w' => w' = w ∧ n ∉ l.take i, MN l.length, IN_zero ⟨rfl, by simp⟩, ?_⟩
  rintro x w1 ⟨i, rfl, hi, rfl, hn⟩
  intros
  rw [h.len]
  refine cond_dec (fun hlt => ?_) (fun hge => ⟨?_, rfl⟩)
  · have hlt' : i < l.length := by omega
    refine h.ixI hlt' fun p _ hc => ?_
    refine LD_int hc ?_
    refine cond_eq (fun he => ⟨?_, rfl⟩) (fun he => ?_)
    · simp [← he]
    · exact IN_next h.le hlt' ⟨rfl, not_mem_take_succ hlt' hn he⟩
  · have hil : i = l.length := by omega
    subst hil
    simp at hn
    simp [hn]

end Go.Proofs.YtjfodknpphhajaaGreat
