/- slices.Repeat of one number, from 1 to 8 times. Conditions: as the name says. -/
import Derived.Test.YtbhkjeicogjfbaaLink
import Derived.Test.YtbhkjeicogjfbaaCopyK
import Derived.Deep.RegionLaw
namespace Go.Proofs.Ytbhkjeicogjfbaa
open Go.RowKit

theorem mul64_any (n : Nat) (w : World) (hn : n ≤ 8) :
    Calls Try.prog 116 #[.int .u64 1, .int .u64 n] w fun e w' => e = .returned (.tuple #[.int .u64 0, .int .u64 n]) ∧ w' = w := by
  rcases (show n = 0 ∨ n = 1 ∨ n = 2 ∨ n = 3 ∨ n = 4 ∨ n = 5 ∨ n = 6 ∨ n = 7 ∨ n = 8 by omega) with rfl | rfl | rfl | rfl | rfl | rfl | rfl | rfl | rfl
  all_goals
    go_enter Try.func116, Try.ntmps116
    go_wp2
    go_ret2
    exact ⟨rfl, rfl⟩
theorem mul_any (n : Nat) (w : World) (hn : n ≤ 8) :
    Calls Try.prog 101 #[.int .u64 1, .int .u64 n] w fun e w' => e = .returned (.tuple #[.int .u64 0, .int .u64 n]) ∧ w' = w := by
  go_enter Try.func101, Try.ntmps101
  go_wp2_with fail
  refine (mul64_any n _ hn).mono ?_
  rintro e w1 ⟨rfl, rfl⟩
  go_wp2
  go_ret2
  exact ⟨rfl, rfl⟩
theorem rep_step (X Z : Value) (n k m : Nat) (h : k + m ≤ n) : setL (List.replicate k X ++ List.replicate (n - k) Z) k (List.replicate m X) = List.replicate (k + m) X ++ List.replicate (n - (k + m)) Z := by
  have e : List.replicate (n - k) Z = List.replicate m Z ++ List.replicate (n - (k + m)) Z := by
    rw [List.replicate_append_replicate]; congr 1; omega
  rw [e, ← List.append_assoc, setL_mid (List.replicate m X) (List.replicate m Z) (List.replicate k X) (List.replicate (n - (k + m)) Z) k (by simp) (by simp), List.replicate_append_replicate]
theorem flat_ic (n : Nat) (x : Int) : (List.replicate n x).flatMap ic = List.replicate n (.int .i64 x) := by
  induction n with
  | zero => rfl
  | succ n ih => rw [List.replicate_succ, List.flatMap_cons, ih]; rfl
set_option maxRecDepth 100000 in
set_option maxHeartbeats 1600000 in
theorem repeat_any (x : Int) (n vb : Nat) (w : World) (hn : 1 ≤ n ∧ n ≤ 8) (hV : Blk w vb 3 #[.int .i64 x]) :
    Calls Try.prog 93 #[.slice (some ⟨vb, 0, none⟩) 1 1, .int .i64 n] w fun e w' => ∃ o, e = .returned (.slice (some ⟨o, 0, none⟩) n n) ∧ Own ic 3 1 w' w.heap.size (.slice (some ⟨o, 0, none⟩) n n) (List.replicate n x) ∧ Below w.heap.size w w' := by
  obtain ⟨hn1, hn2⟩ := hn
  obtain ⟨i0, hi, hz0, hz1, hz2⟩ := info_parts Try.infoI
  have hsz : (Try.prog.info? 3).map (·.size) = some 1 := by rw [hi]; simp [hz1]
  have hmk := fun W => run_make_n (P := Try.prog) 28 3 i0 _ Try.underlying28 hi hz0 .i64 .i64 n n (Nat.le_refl _) (by rw [hz2]; omega) (by omega) W
  rw [hz1] at hmk
  obtain ⟨g, hg⟩ : ∃ g, g = w.heap.size := ⟨_, rfl⟩
  obtain ⟨w1, hw1⟩ : ∃ w1, w1 = w.alloc (.cells (madeCells #[Value.int .i64 0] n) 3) := ⟨_, rfl⟩
  have hb1 : Below w.heap.size w w1 := by rw [hw1]; exact below1 _ _
  have own1 : w1.ownsRow w.heap.size 3 1 (.slice (some ⟨g, 0, none⟩) n n) n (List.replicate 0 (.int .i64 x) ++ List.replicate (n - 0) (.int .i64 0)) := by
    have h := World.ownsRow_lit (e := 3) (size := 1) (base := w.heap.size) w (madeCells #[Value.int .i64 0] n) n (Nat.le_refl _) (by unfold maxLen; omega) (by simp [madeCells])
    have e : (madeCells #[Value.int .i64 0] n).toList = List.replicate n (.int .i64 0) := toList_madeCells_one _ _
    rw [e] at h
    rw [hw1, hg]
    simpa using h
  have hV1 : Blk w1 vb 3 #[.int .i64 x] := hV.up hb1
  have hcp : ∀ (W : World) (k m : Nat) (s : Addr) (sl : Nat), W.ownsRow w.heap.size 3 1 (.slice (some ⟨g, 0, none⟩) n n) n (List.replicate k (.int .i64 x) ++ List.replicate (n - k) (.int .i64 0)) → m = Nat.min sl (n - k) → k < n →
      (∀ j u, (List.replicate m (Value.int .i64 x))[j]? = some u → W.cell? (s.add j) = some u) → ∀ ty dc sc, (Builtin.copy_ #[28, 28] ty #[.slice (some ⟨g, k, none⟩) (n - k) dc, .slice (some s) sl sc]).run Try.prog W = .ok (.int .i64 (m : Int)) (W.setCells g k (List.replicate m (.int .i64 x))) := by
    intro W k m s sl hW hm hk hs ty dc sc
    have h := run_copyK (P := Try.prog) W 28 28 ty 3 1 g k (n - k) dc s sl sc (List.replicate m (.int .i64 x)) Try.underlying28 hsz (by rw [List.length_replicate, Nat.mul_one, hm]) hs
      (fun j hj => own_slots hW _ (by rw [List.length_replicate, hm] at hj; have hmm : Nat.min sl (n - k) ≤ n - k := Nat.min_le_right _ _; omega)) (fun j _ => World.ownsRow.frozenAt hW _) (fun v hv => by have := List.eq_of_mem_replicate hv; rw [this]; rfl)
    rw [← hm] at h
    exact h
  have h1 := hcp w1 0 1 ⟨vb, 0, none⟩ 1 own1 (by simp only [Nat.min_def]; split <;> omega) (by omega) (fun j u hu => by
    have hj := get_lt hu
    rw [List.length_replicate] at hj
    obtain rfl : j = 0 := by omega
    simp at hu
    rw [add_off, hV1.cell, ← hu]; rfl)
  obtain ⟨own2, hg2⟩ := own_cells (List.replicate 1 (.int .i64 x)) 0 w1 _ own1
  rw [rep_step _ _ n 0 1 (by omega)] at own2
  obtain ⟨w2, hw2⟩ : ∃ w2, w2 = w1.setCells g 0 (List.replicate 1 (.int .i64 x)) := ⟨_, rfl⟩
  rw [← hw2] at h1 own2 hg2
  have hb2 : Below w.heap.size w w2 := hb1.grown hg2 hb1.size fun q hq => by injection hq; omega
  have HCP := hide hcp
  have HO2 := hide own2
  clear hcp own1 own2 hV1 hg2 hi hz0 hz1 hz2 hsz
  have q0 : (0 : Int) ≤ n := by omega
  clear hw2
  subst hg
  go_enter Try.func93, Try.ntmps93
  go_wp2_with fail
  refine (mul_any n _ hn2).mono ?_
  rintro e w ⟨rfl, rfl⟩
  go_upto_region 7 with fail
  rw [← hw1]
  clear hw1
  go_wp2_with (refine wpList_copy_r _ rfl (.tmp 31) (.tmp 32) _ _ rfl _ _ rfl rfl (h1 _ _ _) ?_)
  clear h1 hmk
  go_loopg [8] (n) (fun gg iv wr => ∃ k : Nat, iv = .int .i64 k ∧ 1 ≤ k ∧ k ≤ n ∧ n - k ≤ gg ∧ Below w.heap.size w wr ∧ Hid (wr.ownsRow w.heap.size 3 1 (.slice (some ⟨w.heap.size, 0, none⟩) n n) n (List.replicate k (.int .i64 x) ++ List.replicate (n - k) (.int .i64 0))))
  case atStart => exact ⟨1, rfl, by omega, by omega, by omega, hb2, HO2⟩
  case round =>
    obtain ⟨k, rfl, hk1, hk2, hkg, hbe, HO⟩ := hrel
    by_cases hlt : k < n
    · obtain ⟨m, hm⟩ : ∃ m, m = Nat.min k (n - k) := ⟨_, rfl⟩
      have hmk : m ≤ k := by rw [hm]; exact Nat.min_le_left _ _
      have hmn : m ≤ n - k := by rw [hm]; exact Nat.min_le_right _ _
      have hm1 : 1 ≤ m := by rw [hm]; simp only [Nat.min_def]; split <;> omega
      have hr := HCP.out wr.drew k m ⟨w.heap.size, 0, none⟩ k (World.ownsRow.drew HO.out) hm hlt (fun j u hu => by
        have hj := get_lt hu
        rw [List.length_replicate] at hj
        rw [add_off, Nat.zero_add, World.ownsRow.cellAt (World.ownsRow.drew HO.out) j (by omega), List.getElem?_append_left (by simp; omega)]
        rw [List.getElem?_replicate] at hu ⊢
        rw [if_pos (by omega)] at hu ⊢
        exact hu)
      obtain ⟨own3, hg3⟩ := own_cells (List.replicate m (.int .i64 x)) k wr.drew _ (World.ownsRow.drew HO.out)
      rw [rep_step _ _ n k m (by omega)] at own3
      obtain ⟨w3, hw3⟩ : ∃ w3, w3 = wr.drew.setCells w.heap.size k (List.replicate m (.int .i64 x)) := ⟨_, rfl⟩
      rw [← hw3] at hr own3 hg3
      have hb3 : Below w.heap.size w w3 := (hbe.drew).grown hg3 hbe.size fun q hq => by injection hq; omega
      have HO3 := hide own3
      clear own3 hg3 hw3 HO hm hbe
      have q1 : (k : Int) ≤ n := by omega
      have q2 : (0 : Int) ≤ k := by omega
      have q3 : k ≤ n := hk2
      have q4 : ¬ (n = k) := by omega
      have q5 : IntKind.i64.wrap ((k : Int) + (m : Int)) = (k : Int) + (m : Int) := by rw [IntKind.wrap_i64]; omega
      go_upto_region 9 with fail
      go_region_law (refine step_copy_r (by rfl) (.tmp 41) (.tmp 44) 28 28 (by rfl) (.slice (some ⟨w.heap.size, k, none⟩) (n - k) (n - k)) (.slice (some ⟨w.heap.size, 0, none⟩) k n) (by simp [Act.eval, Act.put]) (by simp [Act.eval, Act.put]) (hr 3 (n - k) n) ?_)
      go_wp2
      go_roundg (gk - 1)
      case measure => omega
      case rel => exact ⟨k + m, by go_num, by omega, by omega, by omega, hb3, HO3⟩
    · obtain rfl : k = n := by omega
      go_wp2
      go_ret
      refine ⟨_, rfl, ?_, hbe⟩
      have h := HO.out
      rw [Nat.sub_self, List.replicate_zero, List.append_nil] at h
      unfold Own
      rw [flat_ic, List.length_replicate]
      exact h
end Go.Proofs.Ytbhkjeicogjfbaa
