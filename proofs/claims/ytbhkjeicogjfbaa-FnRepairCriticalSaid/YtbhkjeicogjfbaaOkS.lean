/- l21Ok and l2Two of the reference. Conditions: at most 1048576 links. -/
import Derived.Test.YtbhkjeicogjfbaaSafeW
import Derived.Test.YtbhkjeicogjfbaaSelS
namespace Go.Proofs.Ytbhkjeicogjfbaa
open Go.RowKit
set_option maxHeartbeats 800000 in
theorem l21Ok_any (v : Value) (g : Gr) (f k t : Int) (w : World) (hv : GrR w w.heap.size v g) (hm : g.ls.length ≤ 1048576) :
    Calls Try.prog 63 #[v, .int .i64 f, .int .i64 k, .int .i64 t] w fun e w' => e = .returned (.bool (tb (Ok g f k ∧ Nd g t))) ∧ Below w.heap.size w w' := by
  obtain ⟨R, hR⟩ : ∃ R, R = (Ok g f k ∧ Nd g t) := ⟨_, rfl⟩
  have HR : Hid (R ↔ (GV g ∧ Ix g k) ∧ Nd g f ∧ Nd g t) := hide (by rw [hR]; exact ⟨fun h => ⟨⟨h.1.1, h.1.2.1⟩, h.1.2.2, h.2⟩, fun h => ⟨⟨h.1.1, h.1.2, h.2.1⟩, h.2.2⟩⟩)
  rw [← hR]
  clear hR
  have hvv := hv
  obtain ⟨A, cap, rfl, hc, hr⟩ := hv.form
  obtain ⟨wb, hwb⟩ : ∃ wb, wb = w.alloc (Obj.cells #[.int .i64 g.n, .slice A g.ls.length cap] 25) := ⟨_, rfl⟩
  have hbw : Below w.heap.size w wb := by rw [hwb]; exact below1 _ _
  have HB : Hid (Blk wb w.heap.size 25 #[.int .i64 g.n, .slice A g.ls.length cap]) := hide (by rw [hwb]; exact Blk.new _ _ _)
  have HV := hide (hvv.up hbw)
  clear hr hvv hv
  go_enter Try.func63, Try.ntmps63
  go_wp2_with fail
  rw [← hwb]
  clear hwb
  refine (l1Index_any _ g _ _ HV.out hm).mono ?_
  rintro e w1 ⟨rfl, hb1⟩
  have HB1 := hide (HB.out.up hb1)
  have HV1 := hide (HV.out.up hb1)
  have hb01 := hbw.trans (hb1.mono hbw.size)
  clear HB HV hb1 hbw
  have c0 := HB1.out.cell 0
  have c1 := HB1.out.cell 1
  by_cases hA : GV g ∧ Ix g k
  · rw [tb_yes hA]
    have HA := hide hA
    clear hA
    go_wp2_with fail
    refine (l1Node_any _ g _ _ HV1.out HA.out.1).mono ?_
    rintro e w2 ⟨rfl, hb2⟩
    have HB2 := hide (HB1.out.up hb2)
    have HV2 := hide (HV1.out.up hb2)
    have hb02 := hb01.trans (hb2.mono hb01.size)
    clear HB1 HV1 hb2 hb01 c0 c1
    have c0 := HB2.out.cell 0
    have c1 := HB2.out.cell 1
    by_cases hA2 : Nd g f
    · rw [tb_yes hA2]
      have HA2 := hide hA2
      clear hA2
      go_wp2_with fail
      refine (l1Node_any _ g _ _ HV2.out HA.out.1).mono ?_
      rintro e w3 ⟨rfl, hb3⟩
      go_wp2
      go_ret
      exact ⟨ret_bool (tb_iff ⟨fun h => HR.out.2 ⟨HA.out, HA2.out, h⟩, fun h => (HR.out.1 h).2.2⟩), hb02.trans (hb3.mono hb02.size)⟩
    · rw [tb_no hA2]
      have HA2 := hide hA2
      clear hA2
      go_wp2
      go_ret
      exact ⟨ret_bool (tb_no fun h => HA2.out (HR.out.1 h).2.1).symm, hb02⟩
  · rw [tb_no hA]
    have HA := hide hA
    clear hA
    go_wp2
    go_ret
    exact ⟨ret_bool (tb_no fun h => HA.out (HR.out.1 h).1).symm, hb01⟩
end Go.Proofs.Ytbhkjeicogjfbaa
