/- GraphWithout of the program: Wo. Conditions: at most 1048576 links. -/
import Derived.Test.YtenfdekjnelkoaaWithout
namespace Go.Proofs.Ytenfdekjnelkoaa
open Go.RowKit

noncomputable def woX (g : Gr) (k : Int) : Gr := open Classical in if GV g ∧ Ix g k then Wo g k.toNat else ⟨0, []⟩
theorem woX_yes {g : Gr} {k : Int} (h : GV g ∧ Ix g k) : woX g k = Wo g k.toNat := if_pos h
theorem woX_no {g : Gr} {k : Int} (h : ¬ (GV g ∧ Ix g k)) : woX g k = ⟨0, []⟩ := if_neg h
set_option maxRecDepth 100000 in
set_option maxHeartbeats 1600000 in
theorem without_any (v : Value) (g : Gr) (k : Int) (w : World) (hv : GrR w w.heap.size v g) (hm : g.ls.length ≤ 1048576) :
    Calls Try.prog 32 #[v, .int .i64 k] w fun e w' => ∃ v', e = .returned (.tuple #[v', .bool (tb (GV g ∧ Ix g k))]) ∧ OwnG w' w.heap.size v' (woX g k) ∧ Below w.heap.size w w' := by
  have hvv := hv
  obtain ⟨A, cap, rfl, hc, hr⟩ := hv.form
  obtain ⟨B, hB⟩ : ∃ B, B = w.heap.size := ⟨_, rfl⟩
  obtain ⟨wb, hwb⟩ : ∃ wb, wb = ((w.alloc (Obj.cells #[.int .i64 g.n, .slice A g.ls.length cap] 25)).alloc (Obj.cells #[.int .i64 k] 3)).alloc (Obj.cells #[.int .i64 0, .slice none 0 0] 25) := ⟨_, rfl⟩
  have hbw : Below w.heap.size w wb := by rw [hwb]; exact below3 _ _ _ _
  have HB : Hid (Blk wb B 25 #[.int .i64 g.n, .slice A g.ls.length cap]) := hide (by rw [hwb, hB]; exact ((Blk.new _ _ _).alloc _).alloc _)
  have HI : Hid (Blk wb (B + 1) 3 #[.int .i64 k]) := hide (by rw [hwb, hB]; exact (Blk.new1 w _ _ _).alloc _)
  have HR : Hid (Blk wb (B + 1 + 1) 25 #[.int .i64 0, .slice none 0 0]) := hide (by
    rw [hwb, hB]
    have h := Blk.new ((w.alloc (Obj.cells #[.int .i64 g.n, .slice A g.ls.length cap] 25)).alloc (Obj.cells #[.int .i64 k] 3)) 25 #[.int .i64 0, .slice none 0 0]
    simpa using h)
  have HV := hide (hvv.up hbw)
  have hmf : ∀ (fn : Fn) (first cap : Array Value) (w : World), (Instr.makeFunc fn first cap).run Try.prog w = .ok (.func fn first cap) w := fun _ _ _ _ => rfl
  have c0 := HB.out.cell 0
  have c1 := HB.out.cell 1
  have c2 := HI.out.cell 0
  clear hr hv hvv
  go_enter Try.func32, Try.ntmps32
  go_upto_region 1 with fail
  rw [← hwb, ← hB]
  have hBw : w.heap.size ≤ B := by omega
  clear hwb hB
  go_wp2_with fail
  refine (hasLink_any _ g _ _ HV.out hm).mono ?_
  rintro e w1 ⟨rfl, hb1⟩
  have HB1 := hide (HB.out.up hb1)
  have HI1 := hide (HI.out.up hb1)
  have HR1 := hide (HR.out.up hb1)
  have HV1 := hide (HV.out.up hb1)
  have hb01 := hbw.trans (hb1.mono hbw.size)
  clear HB HI HR HV hb1 hbw c0 c1 c2
  by_cases hA : GV g ∧ Ix g k
  · rw [tb_yes hA]
    have HW := hide (woX_yes hA)
    have hk := hA.2.1
    have HK := hide (keep_any (B + 1) (.agg #[.int .i64 g.n, .slice A g.ls.length cap]) g k.toNat w1 HV1.out hm (by rw [Int.toNat_of_nonneg hk]; exact HI1.out))
    have HA := hide hA
    clear hA hk
    have c0 := HB1.out.cell 0
    have c1 := HB1.out.cell 1
    have c2 := HI1.out.cell 0
    go_wp2_with fail
    refine HK.out.mono ?_
    rintro e w2 ⟨v2, rfl, hO, hb2⟩
    obtain ⟨A2, k2, rfl⟩ := hO.lit
    have HR2 := hide (HR1.out.up hb2)
    have hb02 := hb01.trans (hb2.mono hb01.size)
    have o0 := HR2.out.cell 0
    have o1 := HR2.out.cell 1
    have y0 := HR2.out.free 0
    have y1 := HR2.out.free 1
    obtain ⟨x2, he, h2⟩ := hO
    cases he
    have hbs := hb01.size
    have HO := hide (h2.low (base' := w.heap.size) hbs)
    clear h2 HK HV1 HI1 HB1 HR1 c0 c1 c2 hb2 hb01
    go_wp2_with fail
    refine bodyPost_ret (v := .tuple #[.agg #[.int .i64 (Wo g k.toNat).n, .slice A2 (Wo g k.toNat).ls.length k2], .bool true]) (by simp [results, Try.results32, go_sem, o0, o1]) rfl ⟨.agg #[.int .i64 (Wo g k.toNat).n, .slice A2 (Wo g k.toNat).ls.length k2], by rw [tb_yes HA.out], by rw [HW.out]; exact ⟨_, rfl, own_far' (own_far' HO.out (own_blk_ne HO.out HR2.out (by decide)) _) (own_blk_ne HO.out HR2.out (by decide)) _⟩, (hb02.setCell (by show w.heap.size ≤ B + 1 + 1; omega) _).setCell (by show w.heap.size ≤ B + 1 + 1; omega) _⟩
  · rw [tb_no hA]
    have HW := hide (woX_no hA)
    have HA := hide hA
    clear hA
    have o0 := HR1.out.cell 0
    have o1 := HR1.out.cell 1
    have y0 := HR1.out.free 0
    have y1 := HR1.out.free 1
    go_wp2_with fail
    refine bodyPost_ret (v := .tuple #[.agg #[.int .i64 0, .slice none 0 0], .bool false]) (by simp [results, Try.results32, go_sem, o0, o1]) rfl ⟨.agg #[.int .i64 0, .slice none 0 0], by rw [tb_no HA.out], by rw [HW.out]; exact ⟨_, rfl, Own.nil _ _ _ _ _⟩, (hb01.setCell (by show w.heap.size ≤ B + 1 + 1; omega) _).setCell (by show w.heap.size ≤ B + 1 + 1; omega) _⟩
end Go.Proofs.Ytenfdekjnelkoaa
