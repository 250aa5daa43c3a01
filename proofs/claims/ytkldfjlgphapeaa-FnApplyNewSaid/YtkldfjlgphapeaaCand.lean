/- Contracts of the small functions on candidates: size, copy, comparison, ranges. Conditions: each slice is read as a list of candidates. -/
import Derived.Test.YtkldfjlgphapeaaBase
namespace Go.Proofs.Ytkldfjlgphapeaa
open Go.RowKit

structure Cand where
  node : Int
  prio : Int
  claim : Int

def cc (c : Cand) : List Value := [.int .i64 c.node, .int .i64 c.prio, .int .i64 c.claim]
theorem cc_len (c : Cand) : (cc c).length = 3 := rfl

theorem candAt {w : World} {b off k : Nat} {cs : List Cand} {c : Cand} (h : RowsAt cc 3 w b off cs) (hk : cs[k]? = some c) :
    w.cell? ⟨b, off + k * 3, none⟩ = some (.int .i64 c.node) ∧ w.cell? ⟨b, off + k * 3 + 1, none⟩ = some (.int .i64 c.prio) ∧ w.cell? ⟨b, off + k * 3 + 2, none⟩ = some (.int .i64 c.claim) :=
  ⟨h k c hk 0 _ rfl, h k c hk 1 _ rfl, h k c hk 2 _ rfl⟩

theorem Try.infoC : (Try.prog.info? 34).map (fun i => (i.zero, i.size, i.bytes)) = some (some (.agg #[.int .i64 0, .int .i64 0, .int .i64 0]), 3, 24) := by kernel_rfl

/-! ### within, l6In -/
theorem within_t (a b c : Int) (w : World) (h : b ≤ a ∧ a ≤ c) :
    Calls Try.prog 30 #[.int .i64 a, .int .i64 b, .int .i64 c] w fun e w' => e = .returned (.bool true) ∧ w' = w := by
  obtain ⟨h1, h2⟩ := h
  go_enter Try.func30, Try.ntmps30
  go_wp2
  go_ret
  simp
theorem within_f (a b c : Int) (w : World) (h : ¬ (b ≤ a ∧ a ≤ c)) :
    Calls Try.prog 30 #[.int .i64 a, .int .i64 b, .int .i64 c] w fun e w' => e = .returned (.bool false) ∧ w' = w := by
  by_cases h1 : b ≤ a
  · have h2 : ¬ a ≤ c := fun h2 => h ⟨h1, h2⟩
    clear h
    go_enter Try.func30, Try.ntmps30
    go_wp2
    go_ret
    simp
  · clear h
    go_enter Try.func30, Try.ntmps30
    go_wp2
    go_ret
    simp
theorem l6In_t (a b c : Int) (w : World) (h : b ≤ a ∧ a ≤ c) :
    Calls Try.prog 28 #[.int .i64 a, .int .i64 b, .int .i64 c] w fun e w' => e = .returned (.bool true) ∧ w' = w := by
  obtain ⟨h1, h2⟩ := h
  go_enter Try.func28, Try.ntmps28
  go_wp2
  go_ret
  simp
theorem l6In_f (a b c : Int) (w : World) (h : ¬ (b ≤ a ∧ a ≤ c)) :
    Calls Try.prog 28 #[.int .i64 a, .int .i64 b, .int .i64 c] w fun e w' => e = .returned (.bool false) ∧ w' = w := by
  by_cases h1 : b ≤ a
  · have h2 : ¬ a ≤ c := fun h2 => h ⟨h1, h2⟩
    clear h
    go_enter Try.func28, Try.ntmps28
    go_wp2
    go_ret
    simp
  · clear h
    go_enter Try.func28, Try.ntmps28
    go_wp2
    go_ret
    simp

/-! ### size -/
theorem sz_any (v : Value) (cs : List Cand) (w : World) (hv : SlR cc 3 w w.heap.size v cs) (hn : cs.length ≤ 1048576) :
    Calls Try.prog 13 #[v, .int .i64 1048576] w fun e w' => e = .returned (.int .i64 (1048576 - cs.length)) ∧ w' = w := by
  obtain ⟨A, cap, rfl, hc, hr⟩ := hv
  clear hr
  go_enter Try.func13, Try.ntmps13
  go_wp2
  go_ret
  simp
theorem sz_over (v : Value) (cs : List Cand) (w : World) (hv : SlR cc 3 w w.heap.size v cs) (hn : 1048576 < cs.length) (hm : cs.length ≤ 9223372036854775807) :
    Calls Try.prog 13 #[v, .int .i64 1048576] w fun e w' => e = .returned (.int .i64 (-1)) ∧ w' = w := by
  obtain ⟨A, cap, rfl, hc, hr⟩ := hv
  clear hr
  go_enter Try.func13, Try.ntmps13
  go_wp2
  go_ret
  simp

/-! ### one candidate: copy, comparison -/
theorem to1_any (x y z : Int) (w : World) :
    Calls Try.prog 29 #[.agg #[.int .i64 x, .int .i64 y, .int .i64 z]] w fun e w' => e = .returned (.agg #[.int .i64 x, .int .i64 y, .int .i64 z]) ∧ Below w.heap.size w w' := by
  go_enter Try.func29, Try.ntmps29
  go_wp2
  refine bodyPost_ret (v := .agg #[.int .i64 x, .int .i64 y, .int .i64 z]) (by simp [results, Try.results29, go_sem]) rfl ⟨rfl, ?_⟩
  exact below3 _ _ _ _

theorem eq1_any (c d : Cand) (w : World) :
    Calls Try.prog 31 #[.agg #[.int .i64 c.node, .int .i64 c.prio, .int .i64 c.claim], .agg #[.int .i64 d.node, .int .i64 d.prio, .int .i64 d.claim]] w
      fun e w' => e = .returned (.bool (eqB c d)) ∧ Below w.heap.size w w' := by
  obtain ⟨x, y, z⟩ := c
  obtain ⟨x', y', z'⟩ := d
  by_cases h1 : x = x'
  · by_cases h2 : y = y'
    · by_cases h3 : z = z'
      · subst h1 h2 h3
        go_enter Try.func31, Try.ntmps31
        go_wp2
        go_ret
        exact ⟨ret_bool (eqB_self _).symm, below2 _ _ _⟩
      · subst h1 h2
        have hb : (z != z') = true := by simp [h3]
        go_enter Try.func31, Try.ntmps31
        go_wp2
        go_ret
        exact ⟨ret_bool (eqB_no fun h => h3 (by cases h; rfl)).symm, below2 _ _ _⟩
    · subst h1
      have hb : (y != y') = true := by simp [h2]
      go_enter Try.func31, Try.ntmps31
      go_wp2
      go_ret
      exact ⟨ret_bool (eqB_no fun h => h2 (by cases h; rfl)).symm, below2 _ _ _⟩
  · have hb : (x != x') = true := by simp [h1]
    go_enter Try.func31, Try.ntmps31
    go_wp2
    go_ret
    exact ⟨ret_bool (eqB_no fun h => h1 (by cases h; rfl)).symm, below2 _ _ _⟩
end Go.Proofs.Ytkldfjlgphapeaa
