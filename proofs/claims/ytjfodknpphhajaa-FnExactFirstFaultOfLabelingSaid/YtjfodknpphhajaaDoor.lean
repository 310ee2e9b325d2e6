/- Facts of this seat's program that every claim's last step asks for, each computed once (together they need more memory than a text may use). -/
import Derived.Test.YtjfodknpphhajaaRows
import Derived.KernelRfl
import Derived.JoinedOf
namespace Go.Proofs.Ytjfodknpphhajaa


theorem door_enters : Try.pinned.checked.prog.mayEnter = true := by kernel_rfl

theorem door_lifts : Try.pinned.checked.prog.liftsFinal = false := by kernel_rfl

theorem door_heard : Try.pinned.checked.prog.stopsHeard = true := by kernel_rfl

theorem door_laid : laidOutB Try.pinned.checked.prog = true := by kernel_rfl

theorem door_maps : mapsRowed Try.pinned.checked.prog = true := by kernel_rfl

end Go.Proofs.Ytjfodknpphhajaa
