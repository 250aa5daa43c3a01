/- Drawing a node, a link. Conditions: the reader's place is at most 1000. -/
import Derived.Test.YtbhkjeicogjfbaaDrawG
namespace Go.Proofs.Ytbhkjeicogjfbaa
open Go.RowKit

def DrawNPost (bs : List Int) (g p : Nat) (w : World) (e : Ending) (w' : World) : Prop :=
  ∃ (x : Int) (p' : Nat), e = .returned (.int .i64 x) ∧ Rd w' g bs p' ∧ p' ≤ p + 2 ∧ w.grownBy w' (some g)
set_option maxHeartbeats 800000 in
theorem drawNode_any (v : Value) (gr : Gr) (bs : List Int) (g p : Nat) (w : World) (hR : Rd w g bs p) (hp : p ≤ 1000000) (hv : GrR w w.heap.size v gr) (_hn : gr.ls.length ≤ 15) :
    Calls Try.prog 53 #[.pointer (some ⟨g, 0, none⟩), v] w (DrawNPost bs g p w) := by
  obtain ⟨A, cap, rfl, hc, hr⟩ := hv.form
  obtain ⟨wb, hwb⟩ : ∃ wb, wb = w.alloc (Obj.cells #[.int .i64 gr.n, .slice A gr.ls.length cap] 25) := ⟨_, rfl⟩
  have hbw : Below w.heap.size w wb := by rw [hwb]; exact below1 _ _
  have HB : Hid (Blk wb w.heap.size 25 #[.int .i64 gr.n, .slice A gr.ls.length cap]) := hide (by rw [hwb]; exact Blk.new _ _ _)
  have hgl := hR.lt
  have HR := hide (hR.below hbw)
  have f0 := only_below (only_refl w (some g)) hbw
  clear hv hr hR
  go_enter Try.func53, Try.ntmps53
  go_wp2_with fail
  rw [← hwb]
  clear hwb
  refine (pick_any bs g p _ _ HR.out (by omega)).mono ?_
  rintro e w1 ⟨r1, rfl, ⟨h10, h11⟩, R1, hg1⟩
  have HB1 := hide (HB.out.grown hg1 (by intro e; injection e; omega))
  have f1 := only_trans f0 hg1
  clear HB HR hbw h11
  by_cases h0 : r1 = 0
  · have e0 : (r1 == 0) = true := by simp [h0]
    clear h0
    go_wp2_with fail
    refine (pick_any bs g (p + 1) _ _ R1 (by omega)).mono ?_
    rintro e w2 ⟨r2, rfl, ⟨h20, h21⟩, R2, hg2⟩
    have h22 := h21 (by omega)
    go_wp2
    go_ret
    exact ⟨_, _, rfl, R2, by omega, only_trans f1 hg2⟩
  · have e0 : (r1 == 0) = false := by simp [h0]
    clear h0
    have c0 := HB1.out.cell 0
    have c1 := HB1.out.cell 1
    by_cases hmx : gr.n < 1
    · go_wp2_with fail
      refine (pick_any bs g (p + 1) _ _ R1 (by omega)).mono ?_
      rintro e w2 ⟨r2, rfl, ⟨h20, h21⟩, R2, hg2⟩
      go_wp2
      go_ret
      exact ⟨_, _, rfl, R2, by omega, only_trans f1 hg2⟩
    · go_wp2_with fail
      refine (pick_any bs g (p + 1) _ _ R1 (by omega)).mono ?_
      rintro e w2 ⟨r2, rfl, ⟨h20, h21⟩, R2, hg2⟩
      go_wp2
      go_ret
      exact ⟨_, _, rfl, R2, by omega, only_trans f1 hg2⟩
set_option maxHeartbeats 800000 in
theorem drawLink_any (v : Value) (gr : Gr) (bs : List Int) (g p : Nat) (w : World) (hR : Rd w g bs p) (hp : p ≤ 1000000) (hv : GrR w w.heap.size v gr) (_hn : gr.ls.length ≤ 15) :
    Calls Try.prog 52 #[.pointer (some ⟨g, 0, none⟩), v] w (DrawNPost bs g p w) := by
  obtain ⟨A, cap, rfl, hc, hr⟩ := hv.form
  obtain ⟨wb, hwb⟩ : ∃ wb, wb = w.alloc (Obj.cells #[.int .i64 gr.n, .slice A gr.ls.length cap] 25) := ⟨_, rfl⟩
  have hbw : Below w.heap.size w wb := by rw [hwb]; exact below1 _ _
  have HB : Hid (Blk wb w.heap.size 25 #[.int .i64 gr.n, .slice A gr.ls.length cap]) := hide (by rw [hwb]; exact Blk.new _ _ _)
  have hgl := hR.lt
  have HR := hide (hR.below hbw)
  have f0 := only_below (only_refl w (some g)) hbw
  clear hv hr hR
  go_enter Try.func52, Try.ntmps52
  go_wp2_with fail
  rw [← hwb]
  clear hwb
  refine (pick_any bs g p _ _ HR.out (by omega)).mono ?_
  rintro e w1 ⟨r1, rfl, ⟨h10, h11⟩, R1, hg1⟩
  have HB1 := hide (HB.out.grown hg1 (by intro e; injection e; omega))
  have f1 := only_trans f0 hg1
  clear HB HR hbw h11
  by_cases h0 : r1 = 0
  · have e0 : (r1 == 0) = true := by simp [h0]
    clear h0
    go_wp2_with fail
    refine (pick_any bs g (p + 1) _ _ R1 (by omega)).mono ?_
    rintro e w2 ⟨r2, rfl, ⟨h20, h21⟩, R2, hg2⟩
    have h22 := h21 (by omega)
    go_wp2
    go_ret
    exact ⟨_, _, rfl, R2, by omega, only_trans f1 hg2⟩
  · have e0 : (r1 == 0) = false := by simp [h0]
    clear h0
    have c0 := HB1.out.cell 0
    have c1 := HB1.out.cell 1
    by_cases hmx : (gr.ls.length:Int) < 1
    · go_wp2_with fail
      refine (pick_any bs g (p + 1) _ _ R1 (by omega)).mono ?_
      rintro e w2 ⟨r2, rfl, ⟨h20, h21⟩, R2, hg2⟩
      go_wp2
      go_ret
      exact ⟨_, _, rfl, R2, by omega, only_trans f1 hg2⟩
    · go_wp2_with fail
      refine (pick_any bs g (p + 1) _ _ R1 (by omega)).mono ?_
      rintro e w2 ⟨r2, rfl, ⟨h20, h21⟩, R2, hg2⟩
      go_wp2
      go_ret
      exact ⟨_, _, rfl, R2, by omega, only_trans f1 hg2⟩
end Go.Proofs.Ytbhkjeicogjfbaa
