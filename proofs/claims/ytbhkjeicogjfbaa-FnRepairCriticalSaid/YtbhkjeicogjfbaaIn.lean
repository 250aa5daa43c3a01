/- Is a number in a range: within, of the program, and l6In, of the reference. Conditions: none. -/
import Derived.Test.YtbhkjeicogjfbaaBase
namespace Go.Proofs.Ytbhkjeicogjfbaa
open Go.RowKit

/-! ### within, l6In -/
theorem within_t (a b c : Int) (w : World) (h : b ≤ a ∧ a ≤ c) :
    Calls Try.prog 92 #[.int .i64 a, .int .i64 b, .int .i64 c] w fun e w' => e = .returned (.bool true) ∧ w' = w := by
  obtain ⟨h1, h2⟩ := h
  go_enter Try.func92, Try.ntmps92
  go_wp2
  go_ret
  simp
theorem within_f (a b c : Int) (w : World) (h : ¬ (b ≤ a ∧ a ≤ c)) :
    Calls Try.prog 92 #[.int .i64 a, .int .i64 b, .int .i64 c] w fun e w' => e = .returned (.bool false) ∧ w' = w := by
  by_cases h1 : b ≤ a
  · have h2 : ¬ a ≤ c := fun h2 => h ⟨h1, h2⟩
    clear h
    go_enter Try.func92, Try.ntmps92
    go_wp2
    go_ret
    simp
  · clear h
    go_enter Try.func92, Try.ntmps92
    go_wp2
    go_ret
    simp
theorem l6In_t (a b c : Int) (w : World) (h : b ≤ a ∧ a ≤ c) :
    Calls Try.prog 73 #[.int .i64 a, .int .i64 b, .int .i64 c] w fun e w' => e = .returned (.bool true) ∧ w' = w := by
  obtain ⟨h1, h2⟩ := h
  go_enter Try.func73, Try.ntmps73
  go_wp2
  go_ret
  simp
theorem l6In_f (a b c : Int) (w : World) (h : ¬ (b ≤ a ∧ a ≤ c)) :
    Calls Try.prog 73 #[.int .i64 a, .int .i64 b, .int .i64 c] w fun e w' => e = .returned (.bool false) ∧ w' = w := by
  by_cases h1 : b ≤ a
  · have h2 : ¬ a ≤ c := fun h2 => h ⟨h1, h2⟩
    clear h
    go_enter Try.func73, Try.ntmps73
    go_wp2
    go_ret
    simp
  · clear h
    go_enter Try.func73, Try.ntmps73
    go_wp2
    go_ret
    simp

end Go.Proofs.Ytbhkjeicogjfbaa
