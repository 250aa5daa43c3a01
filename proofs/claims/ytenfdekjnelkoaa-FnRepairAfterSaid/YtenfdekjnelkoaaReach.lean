/- Distances and GraphReach of the program. Conditions: at most 1048576 links. -/
import Derived.Test.YtenfdekjnelkoaaSelI
namespace Go.Proofs.Ytenfdekjnelkoaa
open Go.RowKit

noncomputable def distX (g : Gr) (f : Int) : List Int := okL (GV g ∧ Nd g f) (distL g f)
noncomputable def reachL (g : Gr) (f : Int) : List Int := okL (GV g ∧ Nd g f) (selTo (fun y => 0 ≤ D g f y) g.n.toNat)
set_option maxHeartbeats 800000 in
theorem distancesX_any (v : Value) (g : Gr) (f : Int) (w : World) (hv : GrR w w.heap.size v g) (hm : g.ls.length ≤ 1048576) :
    Calls Try.prog 74 #[v, .int .i64 f] w fun e w' => ∃ v', e = .returned v' ∧ Own ic 3 1 w' w.heap.size v' (distX g f) ∧ Below w.heap.size w w' := by
  obtain ⟨R, hR⟩ : ∃ R, R = distX g f := ⟨_, rfl⟩
  rw [← hR]
  have HR := hide hR
  clear hR
  have hvv := hv
  obtain ⟨A, cap, rfl, hc, hr⟩ := hv.form
  obtain ⟨wb, hwb⟩ : ∃ wb, wb = w.alloc (Obj.cells #[.int .i64 g.n, .slice A g.ls.length cap] 25) := ⟨_, rfl⟩
  have hbw : Below w.heap.size w wb := by rw [hwb]; exact below1 _ _
  have HB : Hid (Blk wb w.heap.size 25 #[.int .i64 g.n, .slice A g.ls.length cap]) := hide (by rw [hwb]; exact Blk.new _ _ _)
  have HDI := hide (fun (h : GV g ∧ Nd g f) W (hW : GrR W W.heap.size (.agg #[.int .i64 g.n, .slice A g.ls.length cap]) g) => distances_any _ g f W hW h.1 h.2)
  obtain ⟨d, hd⟩ : ∃ d, d = distL g f := ⟨_, rfl⟩
  rw [← hd] at HDI
  have HD := hide hd
  have HV := hide (hvv.up hbw)
  clear hd hvv hv hr
  go_enter Try.func74, Try.ntmps74
  go_wp2_with fail
  rw [← hwb]
  clear hwb
  refine (hasNode_any _ g _ _ HV.out hm).mono ?_
  rintro e w1 ⟨rfl, hb1⟩
  have HB1 := hide (HB.out.up hb1)
  have HV1 := hide (HV.out.up hb1)
  have hb01 := hbw.trans (hb1.mono hbw.size)
  clear HB HV hb1 hbw
  have c0 := HB1.out.cell 0
  have c1 := HB1.out.cell 1
  by_cases hA : GV g ∧ Nd g f
  · rw [tb_yes hA]
    have HA := hide hA
    clear hA
    go_wp2_with fail
    refine (HDI.out HA.out _ HV1.out).mono ?_
    rintro e w2 ⟨o, rfl, hO, hb2⟩
    have HO := hide hO
    clear hO
    go_wp2
    go_ret
    exact ⟨_, rfl, by rw [HR.out, distX, okL_yes HA.out, ← HD.out]; exact HO.out.low hb01.size, hb01.trans (hb2.mono hb01.size)⟩
  · rw [tb_no hA]
    have HA := hide hA
    clear hA
    go_wp2
    go_ret
    exact ⟨_, rfl, by rw [HR.out, distX, okL_no HA.out]; exact Own.nil _ _ _ _ _, hb01⟩
end Go.Proofs.Ytenfdekjnelkoaa
