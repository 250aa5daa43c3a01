/- Appending ints. -/
import Derived.Test.YtgaipicebjklaaaDistW
import Derived.Test.YtgaipicebjklaaaApp
namespace Go.Proofs.Ytgaipicebjklaaa
open Go.RowKit

theorem infI : SlInf Try.prog 28 3 ic 1 := by
  obtain ⟨i0, hi, hz0, hz1, hz2⟩ := info_parts Try.infoI
  exact ⟨Try.underlying28, ⟨i0, _, hi, hz0, hz1, by rw [hz2]; decide, rfl⟩, by decide, ic_len, ic_one⟩
theorem slr_lit (W : World) (x : Int) : SlR ic 1 (W.alloc (Obj.cells #[.int .i64 x] 3)) (W.heap.size + 1) (.slice (some ⟨W.heap.size, 0, none⟩) 1 1) [x] :=
  slr_one (Blk.new W 3 #[.int .i64 x]) rfl (by omega)
end Go.Proofs.Ytgaipicebjklaaa
