/- Walks of the functions on one byte. -/
import Derived.Test.YtocelmjncjompaaDoorRows
import Derived.Test.YtocelmjncjompaaDoorLxPlain
import Derived.WalkKit
import Derived.WalkSpells
import Derived.WalkLawsBesides
namespace Go.Proofs.YtocelmjncjompaaDoor
open Go.RowKit

set_option maxHeartbeats 400000 in
theorem rLetter (c : UInt8) (w : World) :
    Calls Tryd.prog 41 #[.int .u8 c.toNat] w fun e w' => e = .returned (.bool (Lx.letter c)) ∧ w = w' := by
  go_enter Tryd.func41, Tryd.ntmps41
  go_wp2
  all_goals (go_ret; refine ⟨ret_bool ?_, rfl⟩; rw [Lx.letter_iff, Bool.eq_iff_iff]; simp [*] <;> omega)
set_option maxHeartbeats 400000 in
theorem rFigure (c : UInt8) (w : World) :
    Calls Tryd.prog 43 #[.int .u8 c.toNat] w fun e w' => e = .returned (.bool (Lx.figure c)) ∧ w = w' := by
  go_enter Tryd.func43, Tryd.ntmps43
  go_wp2
  all_goals (go_ret; refine ⟨ret_bool ?_, rfl⟩; rw [Lx.figure_iff, Bool.eq_iff_iff]; simp [*] <;> omega)
set_option maxHeartbeats 400000 in
theorem rSpace (c : UInt8) (w : World) :
    Calls Tryd.prog 25 #[.int .u8 c.toNat] w fun e w' => e = .returned (.bool (Lx.space c)) ∧ w = w' := by
  go_enter Tryd.func25, Tryd.ntmps25
  go_wp2
  all_goals (go_ret; refine ⟨ret_bool ?_, rfl⟩; rw [Lx.space_iff, Bool.eq_iff_iff]; simp [*] <;> omega)
set_option maxHeartbeats 400000 in
theorem rPart (c : UInt8) (w : World) :
    Calls Tryd.prog 42 #[.int .u8 c.toNat] w fun e w' => e = .returned (.bool (Lx.part c)) ∧ w = w' := by
  go_enter Tryd.func42, Tryd.ntmps42
  go_wp2_with (first | (go_at_call 41; refine (rLetter c _).mono ?_; rintro e w' ⟨rfl, rfl⟩) | (go_at_call 43; refine (rFigure c _).mono ?_; rintro e w' ⟨rfl, rfl⟩))
  all_goals (go_ret; refine ⟨ret_bool ?_, rfl⟩; rw [Lx.part_iff, Bool.eq_iff_iff]; simp [*])
end Go.Proofs.YtocelmjncjompaaDoor
