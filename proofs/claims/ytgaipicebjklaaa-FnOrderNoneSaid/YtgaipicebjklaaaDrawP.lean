/- Drawing for RepairNeeded: as for RepairSafe. Conditions: bytes. -/
import Derived.Test.YtgaipicebjklaaaDrawQ
namespace Go.Proofs.Ytgaipicebjklaaa
open Go.RowKit

set_option maxHeartbeats 800000 in
theorem drawRN_any (v : Value) (bs : List Int) (w : World) (hv : SlR bc 1 w w.heap.size v bs) (hm : bs.length ≤ 9223372036854775807 ∧ ∀ n ∈ bs, 0 ≤ n ∧ n ≤ 255) :
    Calls Try.prog 13 #[v] w (DrawQPost w) := by
  have hb0 := below1 w (Obj.cells #[.int .i64 0, .slice none 0 0] 25)
  have HB0 := hide (Blk.new w 25 #[.int .i64 0, .slice none 0 0])
  have hv0 := hv.up hb0
  go_enter Try.func13, Try.ntmps13
  go_wp2_with fail
  refine (drawRS_any v bs _ hv0 hm).mono ?_
  rintro e w1 ⟨v1, gr, f, k, rfl, hO1, hl1, hb1⟩
  obtain ⟨A, cap, rfl⟩ := hO1.lit
  obtain ⟨x2, he, h2⟩ := hO1
  cases he
  have HB1 := hide (HB0.out.up hb1)
  have hb01 := hb0.trans (hb1.mono hb0.size)
  have hs0 := hb0.size
  have HO := hide (h2.low hs0)
  have o0 := HB1.out.cell 0
  have o1 := HB1.out.cell 1
  have y0 := HB1.out.free 0
  have y1 := HB1.out.free 1
  clear h2 HB0 hb0 hv0 hv hb1 hs0 hm
  go_wp2_with fail
  refine bodyPost_ret (v := .tuple #[.agg #[.int .i64 gr.n, .slice A gr.ls.length cap], .int .i64 f, .int .i64 k]) (by simp [results, Try.results13, go_sem, o0, o1]) rfl ⟨_, gr, _, _, rfl, ⟨_, rfl, own_far' (own_far' HO.out (own_blk_ne HO.out HB1.out (by decide)) _) (own_blk_ne HO.out HB1.out (by decide)) _⟩, hl1, (hb01.setCell (Nat.le_refl _) _).setCell (Nat.le_refl _) _⟩
end Go.Proofs.Ytgaipicebjklaaa
