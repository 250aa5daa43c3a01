/- Drawing a route, an address. Conditions: the reader's place is at most 1000000. -/
import Derived.Test.YtlkchocjldllgaaPick
import Derived.Test.YtlkchocjldllgaaTab
namespace Go.Proofs.Ytlkchocjldllgaa
open Go.RowKit

def DrawRPost (bs : List Int) (g p : Nat) (w : World) (e : Ending) (w' : World) : Prop :=
  ∃ (r : Rt) (p' : Nat), e = .returned (.agg #[.int .i64 r.pre, .int .i64 r.bits, .int .i64 r.hop]) ∧ Rd w' g bs p' ∧ p' ≤ p + 10 ∧ w.grownBy w' (some g)

set_option maxHeartbeats 1600000 in
theorem drawRoute_any (bs : List Int) (g p : Nat) (w : World) (hR : Rd w g bs p) (hp : p ≤ 1000000) :
    Calls Try.prog 72 #[.pointer (some ⟨g, 0, none⟩)] w (DrawRPost bs g p w) := by
  have hgl := hR.lt
  have hgO : some w.heap.size ≠ some g := by intro h; injection h; omega
  go_enter Try.func72, Try.ntmps72
  go_wp2_with fail
  refine (pick_any bs g p _ _ (hR.alloc _) (by omega)).mono ?_
  rintro e w1 ⟨r1, rfl, ⟨h10, h11⟩, R1, hg1⟩
  have h12 := h11 (by omega)
  have O1 := (Blk.new w 40 #[.int .i64 0, .int .i64 0, .int .i64 0]).grown hg1 hgO
  have f1 : w.grownBy w1 (some g) := only_trans (only_alloc (only_refl _ _) _) hg1
  go_wp2_with fail
  refine (pick_any bs g (p + 1) _ _ R1 (by omega)).mono ?_
  rintro e w2 ⟨r2, rfl, hr2, R2, hg2⟩
  have O2 := O1.grown hg2 hgO
  have f2 := only_trans f1 hg2
  clear O1 f1 hg1 R1 h11 hg2
  go_wp2_with fail
  obtain ⟨X, hX⟩ : ∃ X, X = w2.heap.size := ⟨_, rfl⟩
  have hwX : w.heap.size ≤ X := by rw [hX]; exact f2.size
  have hgX : some X ≠ some g := by intro h; injection h; omega
  have hgXl : g < X := by omega
  have hOX : w.heap.size ≠ X := by rw [hX]; have := O2.lt; omega
  obtain ⟨w3, hw3⟩ : ∃ w3, w3 = w2.alloc (Obj.cells #[.int .i64 0, .int .i64 r1, .int .i64 r2] 40) := ⟨_, rfl⟩
  have B3 : Blk w3 X 40 #[.int .i64 0, .int .i64 r1, .int .i64 r2] := by rw [hw3, hX]; exact Blk.new _ _ _
  have O3 : Blk w3 w.heap.size 40 #[.int .i64 0, .int .i64 0, .int .i64 0] := by rw [hw3]; exact O2.alloc _
  have R3 : Rd w3 g bs (p + 1 + 1) := by rw [hw3]; exact R2.alloc _
  have f3 : w.grownBy w3 (some g) := by rw [hw3]; exact only_alloc f2 _
  rw [← hw3, ← hX]
  clear hw3 hX O2 R2 f2
  refine (pick_any bs g (p + 1 + 1) _ _ R3 (by omega)).mono ?_
  rintro e w4 ⟨r4, rfl, hr4, R4, hg4⟩
  have B4 := B3.grown hg4 hgX
  have O4 := O3.grown hg4 hgO
  have f4 := only_trans f3 hg4
  clear B3 O3 f3 R3 hg4
  by_cases h0 : r4 = 0
  · subst h0
    go_wp2_with fail
    refine (pick_any bs g (p + 1 + 1 + 1) _ _ R4 (by omega)).mono ?_
    rintro e w5 ⟨r5, rfl, ⟨h50, h51⟩, R5, hg5⟩
    have h52 := h51 (by omega)
    have B5 := B4.grown hg5 hgX
    have O5 := O4.grown hg5 hgO
    have f5 := only_trans f4 hg5
    have c1 := B5.cell 1
    have z1 := B5.free 1
    clear hg5 h51
    go_upto_region 4 with fail
    obtain ⟨wz, hwz⟩ : ∃ wz, wz = w5.setCell ⟨X, 1, none⟩ (.int .i64 r5) := ⟨_, rfl⟩
    have B10 : Blk wz X 40 #[.int .i64 0, .int .i64 r5, .int .i64 r2] := by rw [hwz]; exact B5.put 1 _
    have O10 : Blk wz w.heap.size 40 #[.int .i64 0, .int .i64 0, .int .i64 0] := by rw [hwz]; exact O5.far hOX _
    have R10 : Rd wz g bs (p + 1 + 1 + 1 + 1) := by rw [hwz]; exact R5.far hgXl _
    have f10 : w.grownBy wz (some g) := by rw [hwz]; exact only_setCell f5 (.inr hwX) _
    rw [← hwz]
    clear hwz c1 z1 B4 O4 f4 R4 B5 O5 f5 R5
    have c1 := B10.cell 1
    have hlow := low_any (r5) wz ⟨by omega, by omega⟩
    have hlp := low_pos (r5)
    obtain ⟨lo, hlo⟩ : ∃ lo, lo = low (r5) := ⟨_, rfl⟩
    rw [← hlo] at hlow hlp
    obtain ⟨hl1, hl2⟩ := hlp
    clear hlo
    go_wp2_with fail
    refine hlow.mono ?_
    rintro e w5 ⟨rfl, rfl⟩
    go_wp2_with fail
    refine (pick_any bs g (p + 1 + 1 + 1 + 1) _ _ R10 (by omega)).mono ?_
    rintro e w6 ⟨r6, rfl, ⟨h60, h61⟩, hR6, hg6⟩
    have h62 := h61 (by omega)
    have B6 := B10.grown hg6 hgX
    have O6 := O10.grown hg6 hgO
    have f6 := only_trans f10 hg6
    have dv : wrap64 (r6.tdiv lo) = r6 / lo := by
      rw [Int.tdiv_eq_ediv_of_nonneg h60]
      have h2 := Int.ediv_le_self lo h60
      have h3 := Int.ediv_nonneg h60 (show 0 ≤ lo by omega)
      unfold wrap64; omega
    have ml : wrap64 (r6 / lo * lo) = r6 / lo * lo := by
      have h2 : r6 / lo * lo ≤ r6 := Int.ediv_mul_le r6 (by omega)
      have h3 : 0 ≤ r6 / lo * lo := Int.mul_nonneg (Int.ediv_nonneg h60 (by omega)) (by omega)
      unfold wrap64; omega
    have hq0 : 0 ≤ r6 / lo * lo := Int.mul_nonneg (Int.ediv_nonneg h60 (by omega)) (by omega)
    have hq1 : r6 / lo * lo ≤ 255 := by have := Int.ediv_mul_le r6 (show lo ≠ 0 by omega); omega
    have c0 := B6.cell 0
    have z0 := B6.free 0
    clear hg6 h61 hlow c1
    go_upto_region 6 with fail
    obtain ⟨q, hq⟩ : ∃ q, q = r6 / lo * lo := ⟨_, rfl⟩
    rw [← hq] at hq0 hq1 ⊢
    obtain ⟨wq, hwq⟩ : ∃ wq, wq = w6.setCell ⟨X, 0, none⟩ (.int .i64 q) := ⟨_, rfl⟩
    have B7 : Blk wq X 40 #[.int .i64 q, .int .i64 (r5), .int .i64 r2] := by rw [hwq]; exact B6.put 0 _
    have O7 : Blk wq w.heap.size 40 #[.int .i64 0, .int .i64 0, .int .i64 0] := by rw [hwq]; exact O6.far hOX _
    have R7 : Rd wq g bs ((p + 1 + 1 + 1 + 1) + 1) := by rw [hwq]; exact hR6.far hgXl _
    have f7 : w.grownBy wq (some g) := by rw [hwq]; exact only_setCell f6 (.inr hwX) _
    rw [← hwq]
    clear hwq B6 O6 hR6 f6 c0 z0 dv ml hq
    go_wp2_with fail
    refine (pick_any bs g ((p + 1 + 1 + 1 + 1) + 1) _ _ R7 (by omega)).mono ?_
    rintro e w8 ⟨r8, rfl, hr8, R8, hg8⟩
    have B8 := B7.grown hg8 hgX
    have O8 := O7.grown hg8 hgO
    have f8 := only_trans f7 hg8
    clear B7 O7 f7 R7 hg8
    by_cases h0 : r8 = 0
    · subst h0
      have c0 := B8.cell 0
      have z0 := B8.free 0
      go_upto_region 13 with fail
      obtain ⟨wz, hwz⟩ : ∃ wz, wz = w8.setCell ⟨X, 0, none⟩ (.int .i64 (q + 1)) := ⟨_, rfl⟩
      have B9 : Blk wz X 40 #[.int .i64 (q + 1), .int .i64 (r5), .int .i64 r2] := by rw [hwz]; exact B8.put 0 _
      have O9 : Blk wz w.heap.size 40 #[.int .i64 0, .int .i64 0, .int .i64 0] := by rw [hwz]; exact O8.far hOX _
      have R9 : Rd wz g bs ((p + 1 + 1 + 1 + 1) + 1 + 1) := by rw [hwz]; exact R8.far hgXl _
      have f9 : w.grownBy wz (some g) := by rw [hwz]; exact only_setCell f8 (.inr hwX) _
      rw [← hwz]
      clear hwz c0 z0
      have o0 := O9.cell 0
      have o1 := O9.cell 1
      have o2 := O9.cell 2
      have v0 := O9.free 0
      have v1 := O9.free 1
      have v2 := O9.free 2
      have c0 := B9.cell 0
      have c1 := B9.cell 1
      have c2 := B9.cell 2
      go_wp2_with fail
      refine bodyPost_ret (v := .agg #[.int .i64 (q + 1), .int .i64 (r5), .int .i64 (r2)]) (by simp [results, Try.results72, go_sem, o0, o1, o2]) rfl ⟨⟨q + 1, r5, r2⟩, _, rfl, ((R9.far (by simp; omega) _).far (by simp; omega) _).far (by simp; omega) _, by omega, only_setCell (only_setCell (only_setCell f9 (.inr (Nat.le_refl _)) _) (.inr (Nat.le_refl _)) _) (.inr (Nat.le_refl _)) _⟩
    have e0 : (r8 == 0) = false := by simp [h0]
    by_cases h1 : r8 = 1
    · subst h1
      go_wp2_with fail
      refine (pick_any bs g ((p + 1 + 1 + 1 + 1) + 1 + 1) _ _ R8 (by omega)).mono ?_
      rintro e w9 ⟨r9, rfl, ⟨h90, h91⟩, R9, hg9⟩
      have h92 := h91 (by omega)
      have B9 := B8.grown hg9 hgX
      have O9 := O8.grown hg9 hgO
      have f9 := only_trans f8 hg9
      have c2 := B9.cell 2
      have z2 := B9.free 2
      clear hg9 h91
      go_upto_region 13 with fail
      obtain ⟨wz, hwz⟩ : ∃ wz, wz = w9.setCell ⟨X, 2, none⟩ (.int .i64 (r9 - 1)) := ⟨_, rfl⟩
      have B10 : Blk wz X 40 #[.int .i64 q, .int .i64 (r5), .int .i64 (r9 - 1)] := by rw [hwz]; exact B9.put 2 _
      have O10 : Blk wz w.heap.size 40 #[.int .i64 0, .int .i64 0, .int .i64 0] := by rw [hwz]; exact O9.far hOX _
      have R10 : Rd wz g bs ((p + 1 + 1 + 1 + 1) + 1 + 1 + 1) := by rw [hwz]; exact R9.far hgXl _
      have f10 : w.grownBy wz (some g) := by rw [hwz]; exact only_setCell f9 (.inr hwX) _
      rw [← hwz]
      clear hwz c2 z2
      have o0 := O10.cell 0
      have o1 := O10.cell 1
      have o2 := O10.cell 2
      have v0 := O10.free 0
      have v1 := O10.free 1
      have v2 := O10.free 2
      have c0 := B10.cell 0
      have c1 := B10.cell 1
      have c2 := B10.cell 2
      go_wp2_with fail
      refine bodyPost_ret (v := .agg #[.int .i64 (q), .int .i64 (r5), .int .i64 (r9 - 1)]) (by simp [results, Try.results72, go_sem, o0, o1, o2]) rfl ⟨⟨q, r5, r9 - 1⟩, _, rfl, ((R10.far (by simp; omega) _).far (by simp; omega) _).far (by simp; omega) _, by omega, only_setCell (only_setCell (only_setCell f10 (.inr (Nat.le_refl _)) _) (.inr (Nat.le_refl _)) _) (.inr (Nat.le_refl _)) _⟩
    have e1 : (r8 == 1) = false := by simp [h1]
    by_cases h2 : r8 = 2
    · subst h2
      go_wp2_with fail
      refine (pick_any bs g ((p + 1 + 1 + 1 + 1) + 1 + 1) _ _ R8 (by omega)).mono ?_
      rintro e w9 ⟨r9, rfl, ⟨h90, h91⟩, R9, hg9⟩
      have h92 := h91 (by omega)
      have B9 := B8.grown hg9 hgX
      have O9 := O8.grown hg9 hgO
      have f9 := only_trans f8 hg9
      have c1 := B9.cell 1
      have z1 := B9.free 1
      clear hg9 h91
      go_upto_region 13 with fail
      obtain ⟨wz, hwz⟩ : ∃ wz, wz = w9.setCell ⟨X, 1, none⟩ (.int .i64 (r9 * 10 - 1)) := ⟨_, rfl⟩
      have B10 : Blk wz X 40 #[.int .i64 q, .int .i64 (r9 * 10 - 1), .int .i64 r2] := by rw [hwz]; exact B9.put 1 _
      have O10 : Blk wz w.heap.size 40 #[.int .i64 0, .int .i64 0, .int .i64 0] := by rw [hwz]; exact O9.far hOX _
      have R10 : Rd wz g bs ((p + 1 + 1 + 1 + 1) + 1 + 1 + 1) := by rw [hwz]; exact R9.far hgXl _
      have f10 : w.grownBy wz (some g) := by rw [hwz]; exact only_setCell f9 (.inr hwX) _
      rw [← hwz]
      clear hwz c1 z1
      have o0 := O10.cell 0
      have o1 := O10.cell 1
      have o2 := O10.cell 2
      have v0 := O10.free 0
      have v1 := O10.free 1
      have v2 := O10.free 2
      have c0 := B10.cell 0
      have c1 := B10.cell 1
      have c2 := B10.cell 2
      go_wp2_with fail
      refine bodyPost_ret (v := .agg #[.int .i64 (q), .int .i64 (r9 * 10 - 1), .int .i64 (r2)]) (by simp [results, Try.results72, go_sem, o0, o1, o2]) rfl ⟨⟨q, r9 * 10 - 1, r2⟩, _, rfl, ((R10.far (by simp; omega) _).far (by simp; omega) _).far (by simp; omega) _, by omega, only_setCell (only_setCell (only_setCell f10 (.inr (Nat.le_refl _)) _) (.inr (Nat.le_refl _)) _) (.inr (Nat.le_refl _)) _⟩
    have e2 : (r8 == 2) = false := by simp [h2]
    clear h0 h1 h2
    have o0 := O8.cell 0
    have o1 := O8.cell 1
    have o2 := O8.cell 2
    have v0 := O8.free 0
    have v1 := O8.free 1
    have v2 := O8.free 2
    have c0 := B8.cell 0
    have c1 := B8.cell 1
    have c2 := B8.cell 2
    go_wp2_with fail
    refine bodyPost_ret (v := .agg #[.int .i64 (q), .int .i64 (r5), .int .i64 (r2)]) (by simp [results, Try.results72, go_sem, o0, o1, o2]) rfl ⟨⟨q, r5, r2⟩, _, rfl, ((R8.far (by simp; omega) _).far (by simp; omega) _).far (by simp; omega) _, by omega, only_setCell (only_setCell (only_setCell f8 (.inr (Nat.le_refl _)) _) (.inr (Nat.le_refl _)) _) (.inr (Nat.le_refl _)) _⟩
  · have e4 : (r4 == 0) = false := by simp [h0]
    clear h0
    have c1 := B4.cell 1
    have hlow := low_any (r1) w4 ⟨by omega, by omega⟩
    have hlp := low_pos (r1)
    obtain ⟨lo, hlo⟩ : ∃ lo, lo = low (r1) := ⟨_, rfl⟩
    rw [← hlo] at hlow hlp
    obtain ⟨hl1, hl2⟩ := hlp
    clear hlo
    go_wp2_with fail
    refine hlow.mono ?_
    rintro e w5 ⟨rfl, rfl⟩
    go_wp2_with fail
    refine (pick_any bs g (p + 1 + 1 + 1) _ _ R4 (by omega)).mono ?_
    rintro e w6 ⟨r6, rfl, ⟨h60, h61⟩, hR6, hg6⟩
    have h62 := h61 (by omega)
    have B6 := B4.grown hg6 hgX
    have O6 := O4.grown hg6 hgO
    have f6 := only_trans f4 hg6
    have dv : wrap64 (r6.tdiv lo) = r6 / lo := by
      rw [Int.tdiv_eq_ediv_of_nonneg h60]
      have h2 := Int.ediv_le_self lo h60
      have h3 := Int.ediv_nonneg h60 (show 0 ≤ lo by omega)
      unfold wrap64; omega
    have ml : wrap64 (r6 / lo * lo) = r6 / lo * lo := by
      have h2 : r6 / lo * lo ≤ r6 := Int.ediv_mul_le r6 (by omega)
      have h3 : 0 ≤ r6 / lo * lo := Int.mul_nonneg (Int.ediv_nonneg h60 (by omega)) (by omega)
      unfold wrap64; omega
    have hq0 : 0 ≤ r6 / lo * lo := Int.mul_nonneg (Int.ediv_nonneg h60 (by omega)) (by omega)
    have hq1 : r6 / lo * lo ≤ 255 := by have := Int.ediv_mul_le r6 (show lo ≠ 0 by omega); omega
    have c0 := B6.cell 0
    have z0 := B6.free 0
    clear hg6 h61 hlow c1
    go_upto_region 6 with fail
    obtain ⟨q, hq⟩ : ∃ q, q = r6 / lo * lo := ⟨_, rfl⟩
    rw [← hq] at hq0 hq1 ⊢
    obtain ⟨wq, hwq⟩ : ∃ wq, wq = w6.setCell ⟨X, 0, none⟩ (.int .i64 q) := ⟨_, rfl⟩
    have B7 : Blk wq X 40 #[.int .i64 q, .int .i64 (r1), .int .i64 r2] := by rw [hwq]; exact B6.put 0 _
    have O7 : Blk wq w.heap.size 40 #[.int .i64 0, .int .i64 0, .int .i64 0] := by rw [hwq]; exact O6.far hOX _
    have R7 : Rd wq g bs ((p + 1 + 1 + 1) + 1) := by rw [hwq]; exact hR6.far hgXl _
    have f7 : w.grownBy wq (some g) := by rw [hwq]; exact only_setCell f6 (.inr hwX) _
    rw [← hwq]
    clear hwq B6 O6 hR6 f6 c0 z0 dv ml hq
    go_wp2_with fail
    refine (pick_any bs g ((p + 1 + 1 + 1) + 1) _ _ R7 (by omega)).mono ?_
    rintro e w8 ⟨r8, rfl, hr8, R8, hg8⟩
    have B8 := B7.grown hg8 hgX
    have O8 := O7.grown hg8 hgO
    have f8 := only_trans f7 hg8
    clear B7 O7 f7 R7 hg8
    by_cases h0 : r8 = 0
    · subst h0
      have c0 := B8.cell 0
      have z0 := B8.free 0
      go_upto_region 13 with fail
      obtain ⟨wz, hwz⟩ : ∃ wz, wz = w8.setCell ⟨X, 0, none⟩ (.int .i64 (q + 1)) := ⟨_, rfl⟩
      have B9 : Blk wz X 40 #[.int .i64 (q + 1), .int .i64 (r1), .int .i64 r2] := by rw [hwz]; exact B8.put 0 _
      have O9 : Blk wz w.heap.size 40 #[.int .i64 0, .int .i64 0, .int .i64 0] := by rw [hwz]; exact O8.far hOX _
      have R9 : Rd wz g bs ((p + 1 + 1 + 1) + 1 + 1) := by rw [hwz]; exact R8.far hgXl _
      have f9 : w.grownBy wz (some g) := by rw [hwz]; exact only_setCell f8 (.inr hwX) _
      rw [← hwz]
      clear hwz c0 z0
      have o0 := O9.cell 0
      have o1 := O9.cell 1
      have o2 := O9.cell 2
      have v0 := O9.free 0
      have v1 := O9.free 1
      have v2 := O9.free 2
      have c0 := B9.cell 0
      have c1 := B9.cell 1
      have c2 := B9.cell 2
      go_wp2_with fail
      refine bodyPost_ret (v := .agg #[.int .i64 (q + 1), .int .i64 (r1), .int .i64 (r2)]) (by simp [results, Try.results72, go_sem, o0, o1, o2]) rfl ⟨⟨q + 1, r1, r2⟩, _, rfl, ((R9.far (by simp; omega) _).far (by simp; omega) _).far (by simp; omega) _, by omega, only_setCell (only_setCell (only_setCell f9 (.inr (Nat.le_refl _)) _) (.inr (Nat.le_refl _)) _) (.inr (Nat.le_refl _)) _⟩
    have e0 : (r8 == 0) = false := by simp [h0]
    by_cases h1 : r8 = 1
    · subst h1
      go_wp2_with fail
      refine (pick_any bs g ((p + 1 + 1 + 1) + 1 + 1) _ _ R8 (by omega)).mono ?_
      rintro e w9 ⟨r9, rfl, ⟨h90, h91⟩, R9, hg9⟩
      have h92 := h91 (by omega)
      have B9 := B8.grown hg9 hgX
      have O9 := O8.grown hg9 hgO
      have f9 := only_trans f8 hg9
      have c2 := B9.cell 2
      have z2 := B9.free 2
      clear hg9 h91
      go_upto_region 13 with fail
      obtain ⟨wz, hwz⟩ : ∃ wz, wz = w9.setCell ⟨X, 2, none⟩ (.int .i64 (r9 - 1)) := ⟨_, rfl⟩
      have B10 : Blk wz X 40 #[.int .i64 q, .int .i64 (r1), .int .i64 (r9 - 1)] := by rw [hwz]; exact B9.put 2 _
      have O10 : Blk wz w.heap.size 40 #[.int .i64 0, .int .i64 0, .int .i64 0] := by rw [hwz]; exact O9.far hOX _
      have R10 : Rd wz g bs ((p + 1 + 1 + 1) + 1 + 1 + 1) := by rw [hwz]; exact R9.far hgXl _
      have f10 : w.grownBy wz (some g) := by rw [hwz]; exact only_setCell f9 (.inr hwX) _
      rw [← hwz]
      clear hwz c2 z2
      have o0 := O10.cell 0
      have o1 := O10.cell 1
      have o2 := O10.cell 2
      have v0 := O10.free 0
      have v1 := O10.free 1
      have v2 := O10.free 2
      have c0 := B10.cell 0
      have c1 := B10.cell 1
      have c2 := B10.cell 2
      go_wp2_with fail
      refine bodyPost_ret (v := .agg #[.int .i64 (q), .int .i64 (r1), .int .i64 (r9 - 1)]) (by simp [results, Try.results72, go_sem, o0, o1, o2]) rfl ⟨⟨q, r1, r9 - 1⟩, _, rfl, ((R10.far (by simp; omega) _).far (by simp; omega) _).far (by simp; omega) _, by omega, only_setCell (only_setCell (only_setCell f10 (.inr (Nat.le_refl _)) _) (.inr (Nat.le_refl _)) _) (.inr (Nat.le_refl _)) _⟩
    have e1 : (r8 == 1) = false := by simp [h1]
    by_cases h2 : r8 = 2
    · subst h2
      go_wp2_with fail
      refine (pick_any bs g ((p + 1 + 1 + 1) + 1 + 1) _ _ R8 (by omega)).mono ?_
      rintro e w9 ⟨r9, rfl, ⟨h90, h91⟩, R9, hg9⟩
      have h92 := h91 (by omega)
      have B9 := B8.grown hg9 hgX
      have O9 := O8.grown hg9 hgO
      have f9 := only_trans f8 hg9
      have c1 := B9.cell 1
      have z1 := B9.free 1
      clear hg9 h91
      go_upto_region 13 with fail
      obtain ⟨wz, hwz⟩ : ∃ wz, wz = w9.setCell ⟨X, 1, none⟩ (.int .i64 (r9 * 10 - 1)) := ⟨_, rfl⟩
      have B10 : Blk wz X 40 #[.int .i64 q, .int .i64 (r9 * 10 - 1), .int .i64 r2] := by rw [hwz]; exact B9.put 1 _
      have O10 : Blk wz w.heap.size 40 #[.int .i64 0, .int .i64 0, .int .i64 0] := by rw [hwz]; exact O9.far hOX _
      have R10 : Rd wz g bs ((p + 1 + 1 + 1) + 1 + 1 + 1) := by rw [hwz]; exact R9.far hgXl _
      have f10 : w.grownBy wz (some g) := by rw [hwz]; exact only_setCell f9 (.inr hwX) _
      rw [← hwz]
      clear hwz c1 z1
      have o0 := O10.cell 0
      have o1 := O10.cell 1
      have o2 := O10.cell 2
      have v0 := O10.free 0
      have v1 := O10.free 1
      have v2 := O10.free 2
      have c0 := B10.cell 0
      have c1 := B10.cell 1
      have c2 := B10.cell 2
      go_wp2_with fail
      refine bodyPost_ret (v := .agg #[.int .i64 (q), .int .i64 (r9 * 10 - 1), .int .i64 (r2)]) (by simp [results, Try.results72, go_sem, o0, o1, o2]) rfl ⟨⟨q, r9 * 10 - 1, r2⟩, _, rfl, ((R10.far (by simp; omega) _).far (by simp; omega) _).far (by simp; omega) _, by omega, only_setCell (only_setCell (only_setCell f10 (.inr (Nat.le_refl _)) _) (.inr (Nat.le_refl _)) _) (.inr (Nat.le_refl _)) _⟩
    have e2 : (r8 == 2) = false := by simp [h2]
    clear h0 h1 h2
    have o0 := O8.cell 0
    have o1 := O8.cell 1
    have o2 := O8.cell 2
    have v0 := O8.free 0
    have v1 := O8.free 1
    have v2 := O8.free 2
    have c0 := B8.cell 0
    have c1 := B8.cell 1
    have c2 := B8.cell 2
    go_wp2_with fail
    refine bodyPost_ret (v := .agg #[.int .i64 (q), .int .i64 (r1), .int .i64 (r2)]) (by simp [results, Try.results72, go_sem, o0, o1, o2]) rfl ⟨⟨q, r1, r2⟩, _, rfl, ((R8.far (by simp; omega) _).far (by simp; omega) _).far (by simp; omega) _, by omega, only_setCell (only_setCell (only_setCell f8 (.inr (Nat.le_refl _)) _) (.inr (Nat.le_refl _)) _) (.inr (Nat.le_refl _)) _⟩
end Go.Proofs.Ytlkchocjldllgaa
