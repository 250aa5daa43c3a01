/- Comparing routes. Conditions: none. -/
import Derived.Test.YtlkchocjldllgaaTab
import Derived.StillTailTactics
namespace Go.Proofs.Ytlkchocjldllgaa
open Go.RowKit

def orI (x y : Int) : Int := if x = 0 then y else x
theorem or_any (g : Nat) (x y : Int) (w : World) (h0 : w.cell? ⟨g, 0, none⟩ = some (.int .i64 x)) (h1 : w.cell? ⟨g, 1, none⟩ = some (.int .i64 y)) :
    Calls Try.prog 77 #[.slice (some ⟨g, 0, none⟩) 2 2] w fun e w' => e = .returned (.int .i64 (orI x y)) ∧ w' = w := by
  unfold orI
  by_cases hx : x = 0
  · subst hx
    rw [if_pos rfl]
    by_cases hy : y = 0
    · subst hy
      have hne : ((0 : Int) != 0) = false := by simp
      go_enter Try.func77, Try.ntmps77
      go_wp2
      go_loopg [8] (2) (fun gg iv wr => ∃ k : Nat, k + gg = 2 ∧ iv = .int .i64 k ∧ wr = w)
      case atStart => exact ⟨0, by omega, rfl, rfl⟩
      case round =>
        obtain ⟨k, hk, rfl, hw⟩ := hrel
        subst hw
        rcases (show k = 0 ∨ k = 1 ∨ k = 2 by omega) with rfl | rfl | rfl
        · go_wp2
          go_roundg (gk - 1)
          case measure => omega
          case rel => exact ⟨1, by omega, rfl, rfl⟩
        · go_wp2
          go_roundg (gk - 1)
          case measure => omega
          case rel => exact ⟨2, by omega, rfl, rfl⟩
        · go_wp2
          go_ret
          exact ⟨rfl, rfl⟩
    · have hne : ((0 : Int) != 0) = false := by simp
      have hny : (y != 0) = true := by simp [hy]
      go_enter Try.func77, Try.ntmps77
      go_wp2
      go_loopg [8] (2) (fun gg iv wr => ∃ k : Nat, k + gg = 2 ∧ k < 2 ∧ iv = .int .i64 k ∧ wr = w)
      case atStart => exact ⟨0, by omega, by omega, rfl, rfl⟩
      case round =>
        obtain ⟨k, hk, hk2, rfl, hw⟩ := hrel
        subst hw
        rcases (show k = 0 ∨ k = 1 by omega) with rfl | rfl
        · go_wp2
          go_roundg (gk - 1)
          case measure => omega
          case rel => exact ⟨1, by omega, by omega, rfl, rfl⟩
        · go_wp2
          go_ret
          exact ⟨rfl, rfl⟩
  · rw [if_neg hx]
    have hnx : (x != 0) = true := by simp [hx]
    go_enter Try.func77, Try.ntmps77
    go_wp2
    go_loopg [8] (2) (fun gg iv wr => ∃ k : Nat, k + gg = 2 ∧ k < 1 ∧ iv = .int .i64 k ∧ wr = w)
    case atStart => exact ⟨0, by omega, by omega, rfl, rfl⟩
    case round =>
      obtain ⟨k, hk, hk2, rfl, hw⟩ := hrel
      subst hw
      obtain rfl : k = 0 := by omega
      go_wp2
      go_ret
      exact ⟨rfl, rfl⟩

/-- What compareRoutes answers. -/
def cmpR (a b : Rt) : Int := orI (cmpI a.pre b.pre) (cmpI a.bits b.bits)
set_option maxHeartbeats 200000 in
theorem compareRoutes_any (a b : Rt) (w : World) :
    Calls Try.prog 56 #[.agg #[.int .i64 a.pre, .int .i64 a.bits, .int .i64 a.hop], .agg #[.int .i64 b.pre, .int .i64 b.bits, .int .i64 b.hop]] w
      fun e w' => e = .returned (.int .i64 (cmpR a b)) ∧ Below w.heap.size w w' := by
  unfold cmpR
  obtain ⟨x, hx⟩ : ∃ x, x = cmpI a.pre b.pre := ⟨_, rfl⟩
  obtain ⟨y, hy⟩ : ∃ y, y = cmpI a.bits b.bits := ⟨_, rfl⟩
  have cx := fun W => compare_any a.pre b.pre W
  have cy := fun W => compare_any a.bits b.bits W
  rw [← hx] at cx ⊢
  rw [← hy] at cy ⊢
  have CX := hide cx
  have CY := hide cy
  clear hx hy cx cy
  have hb2 := below2 w (.cells #[.int .i64 a.pre, .int .i64 a.bits, .int .i64 a.hop] 40) (.cells #[.int .i64 b.pre, .int .i64 b.bits, .int .i64 b.hop] 40)
  have hA : Blk ((w.alloc (.cells #[.int .i64 a.pre, .int .i64 a.bits, .int .i64 a.hop] 40)).alloc (.cells #[.int .i64 b.pre, .int .i64 b.bits, .int .i64 b.hop] 40)) w.heap.size 40 #[.int .i64 a.pre, .int .i64 a.bits, .int .i64 a.hop] := (Blk.new _ _ _).alloc _
  have hB : Blk ((w.alloc (.cells #[.int .i64 a.pre, .int .i64 a.bits, .int .i64 a.hop] 40)).alloc (.cells #[.int .i64 b.pre, .int .i64 b.bits, .int .i64 b.hop] 40)) (w.heap.size + 1) 40 #[.int .i64 b.pre, .int .i64 b.bits, .int .i64 b.hop] := by
    have h := Blk.new (w.alloc (.cells #[.int .i64 a.pre, .int .i64 a.bits, .int .i64 a.hop] 40)) 40 #[.int .i64 b.pre, .int .i64 b.bits, .int .i64 b.hop]
    simpa using h
  go_enter Try.func56, Try.ntmps56
  go_upto_region 1 with fail
  obtain ⟨wd, hwd⟩ : ∃ wd, wd = ((w.alloc (.cells #[.int .i64 a.pre, .int .i64 a.bits, .int .i64 a.hop] 40)).alloc (.cells #[.int .i64 b.pre, .int .i64 b.bits, .int .i64 b.hop] 40)) := ⟨_, rfl⟩
  rw [← hwd] at hA hB hb2
  rw [← hwd]
  clear hwd
  have f0 := hA.cell 0
  have f1 := hA.cell 1
  have f2 := hB.cell 0
  have f3 := hB.cell 1
  clear hA hB
  refine wp_region_still_tail 10 (by kernel_rfl) (by kernel_rfl) ?_
  simp only [List.take_succ_cons, List.take_zero, List.drop_succ_cons, List.drop_zero]
  iterate 4 still_step
  still_call (CX.out _)
  iterate 4 still_step
  still_call (CY.out _)
  refine wpStill_nil ?_
  change wpList _ _ _ _ _ wd.drew
  go_wp2_with fail
  refine (or_any wd.heap.size x y (wd.alloc (Obj.cells #[Value.int IntKind.i64 x, Value.int IntKind.i64 y] 3)).drew ((Blk.new wd 3 #[.int .i64 x, .int .i64 y]).cell 0) ((Blk.new wd 3 #[.int .i64 x, .int .i64 y]).cell 1)).mono ?_
  rintro e w3 ⟨rfl, rfl⟩
  have hb3 : Below w.heap.size w (wd.alloc (Obj.cells #[Value.int IntKind.i64 x, Value.int IntKind.i64 y] 3)) := hb2.alloc hb2.size _
  go_wp2
  go_ret
  exact ⟨rfl, hb3.drew⟩
end Go.Proofs.Ytlkchocjldllgaa
