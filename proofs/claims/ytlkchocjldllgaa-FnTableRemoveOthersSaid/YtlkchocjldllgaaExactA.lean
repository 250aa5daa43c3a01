/- The law FnExactTableAdd, walked: it returns true for every table and route. Conditions: none. -/
import Derived.Test.YtlkchocjldllgaaExact2
import Derived.Test.YtlkchocjldllgaaAddI
import Derived.Test.YtlkchocjldllgaaTabG
import Derived.Deep.RegionHeld3
namespace Go.Proofs.Ytlkchocjldllgaa
open Go.RowKit

theorem addT_lens (t : Tab) (r : Rt) (hn : t.routes.length ≤ 1048576 ∧ t.hops.length ≤ 1048576) : (addT t r).1.routes.length ≤ 1048576 ∧ (addT t r).1.hops.length ≤ 1048576 := by
  unfold addT
  split
  · split
    · exact ⟨by show (insL t.routes r).length ≤ _; omega, hn.2⟩
    · exact hn
  · simp
theorem specAdd_u (v : Value) (t : Tab) (r : Rt) (u : Tab) (k : Bool) (w : World) (hT : addT t r = (u, k)) (hv : TbR w w.heap.size v t) (hn : t.routes.length ≤ 1048576 ∧ t.hops.length ≤ 1048576) :
    Calls Try.prog 45 #[v, .agg #[.int .i64 r.pre, .int .i64 r.bits, .int .i64 r.hop]] w fun e w' => ∃ v', e = .returned (.tuple #[v', .bool k]) ∧ OwnT w' w.heap.size v' u ∧ Below w.heap.size w w' := by
  have h1 := specAdd_any v t r w hv hn
  rw [hT] at h1
  exact h1
theorem add_u (v : Value) (t : Tab) (r : Rt) (u : Tab) (k : Bool) (w : World) (hT : addT t r = (u, k)) (hv : TbR w w.heap.size v t) (hn : t.routes.length ≤ 1048576 ∧ t.hops.length ≤ 1048576) :
    Calls Try.prog 44 #[v, .agg #[.int .i64 r.pre, .int .i64 r.bits, .int .i64 r.hop]] w fun e w' => ∃ v', e = .returned (.tuple #[v', .bool k]) ∧ OwnT w' w.heap.size v' u ∧ Below w.heap.size w w' := by
  have h1 := add_any v t r w hv hn
  rw [hT] at h1
  exact h1
/-- A world w above w0 in which box Z holds a table of its own. -/
def Boxed (w0 w : World) (u : Tab) (Z : Nat) : Prop :=
  ∃ A1 n1 k1 A2 n2 k2, Below w0.heap.size w0 w ∧ w0.heap.size ≤ Z ∧ Blk w Z 30 #[.slice A1 n1 k1, .slice A2 n2 k2] ∧ OwnT w w0.heap.size (.agg #[.slice A1 n1 k1, .slice A2 n2 k2]) u
theorem boxed_new {w0 w1 : World} {u : Tab} {A1 A2 : Option Addr} {n1 k1 n2 k2 base : Nat} (hb : Below w0.heap.size w0 w1) (ho : OwnT w1 base (.agg #[.slice A1 n1 k1, .slice A2 n2 k2]) u) (hbase : w0.heap.size ≤ base) :
    Boxed w0 (w1.alloc (.cells #[.slice A1 n1 k1, .slice A2 n2 k2] 30)) u w1.heap.size :=
  ⟨_, _, _, _, _, _, hb.alloc hb.size _, hb.size, Blk.new _ _ _, (ho.below (below1 w1 _)).low hbase⟩
theorem boxed_set {w0 w1 : World} {u : Tab} {A1 A2 : Option Addr} {n1 k1 n2 k2 base Z : Nat} {c : Array Value} (hb : Below w0.heap.size w0 w1) (ho : OwnT w1 base (.agg #[.slice A1 n1 k1, .slice A2 n2 k2]) u) (hbase : w0.heap.size ≤ base) (hZ : Blk w1 Z 30 c) (hc : c.size = 2) (h0 : w0.heap.size ≤ Z) :
    Boxed w0 ((w1.setCell ⟨Z, 0, none⟩ (.slice A1 n1 k1)).setCell ⟨Z, 1, none⟩ (.slice A2 n2 k2)) u Z := by
  have hni := ho.blk_ne hZ (by decide) (by decide)
  obtain ⟨x1, x2, hx, h1, h2, h3⟩ := ho
  injection hx with hx
  injection hx with hx
  injection hx with e1 hx
  injection hx with e2 _
  subst e1; subst e2
  have n1' : ∀ q, (Value.slice A1 n1 k1).ownBlock = some q → q ≠ Z := fun q hq he => hni ⟨_, _, rfl, .inl (he ▸ hq)⟩
  have n2' : ∀ q, (Value.slice A2 n2 k2).ownBlock = some q → q ≠ Z := fun q hq he => hni ⟨_, _, rfl, .inr (he ▸ hq)⟩
  refine ⟨_, _, _, _, _, _, (hb.setCell h0 _).setCell h0 _, h0, ?_, ⟨_, _, rfl, (own_far (own_far h1 n1' _) n1' _).low hbase, (own_far (own_far h2 n2' _) n2' _).low hbase, h3⟩⟩
  obtain ⟨cl⟩ := c
  match cl, hc with
  | [a, b], _ => exact (hZ.put 0 _).put 1 _
set_option maxRecDepth 100000 in
set_option maxHeartbeats 1600000 in
theorem lawExactTableAdd (v : Value) (t : Tab) (rv : Value) (r : Rt) (w : World) (hv : TbR w w.heap.size v t) (hm : t.routes.length ≤ 9223372036854775807 ∧ t.hops.length ≤ 9223372036854775807)
    (hrv : rv = .agg #[.int .i64 r.pre, .int .i64 r.bits, .int .i64 r.hop]) (_hr : (Lit.int .i64 r.pre).wf = true ∧ (Lit.int .i64 r.bits).wf = true ∧ (Lit.int .i64 r.hop).wf = true) :
    Calls Try.prog 21 #[v, rv] w fun e w' => e = .returned (.bool true) ∧ Below w.heap.size w w' := by
  subst hrv
  obtain ⟨u, k, hT⟩ : ∃ u k, addT t r = (u, k) := ⟨_, _, rfl⟩
  have HT := hide hT
  clear hT
  have hvv := hv
  obtain ⟨v1, v2, rfl, h1, h2⟩ := hv
  clear h1 h2
  obtain ⟨wb, hwb⟩ : ∃ wb, wb = (w.alloc (.cells #[v1, v2] 25)).alloc (.cells #[.int .i64 r.pre, .int .i64 r.bits, .int .i64 r.hop] 53) := ⟨_, rfl⟩
  obtain ⟨b3, hb3'⟩ : ∃ b, b = w.heap.size := ⟨_, rfl⟩
  have hb00 : Below w.heap.size w wb := by rw [hwb]; exact below2 _ _ _
  have HB0 : Hid (Blk wb b3 25 #[v1, v2]) := hide (by rw [hwb, hb3']; exact (Blk.new _ _ _).alloc _)
  have HQ0 : Hid (Blk wb (b3 + 1) 53 #[.int .i64 r.pre, .int .i64 r.bits, .int .i64 r.hop]) := hide (by
    have h := Blk.new (w.alloc (.cells #[v1, v2] 25)) 53 #[.int .i64 r.pre, .int .i64 r.bits, .int .i64 r.hop]
    rw [hwb, hb3']; simpa using h)
  have HV := hide (hvv.up hb00)
  by_cases hn : tabSize t ≤ 1048576
  · have hn2 : t.routes.length ≤ 1048576 ∧ t.hops.length ≤ 1048576 := by unfold tabSize at hn; omega
    have hsz : (0 : Int) ≤ 1048576 - t.routes.length - t.hops.length := by unfold tabSize at hn; omega
    have hlo : u.routes.length ≤ 1048576 ∧ u.hops.length ≤ 1048576 := by
      have h := addT_lens t r hn2
      rw [HT.out] at h
      exact h
    go_enter Try.func21, Try.ntmps21
    go_wp2_with fail
    rw [← hwb, ← hb3']
    clear hwb hb3'
    refine (szT_any _ t _ HV.out hn).mono ?_
    rintro e w1 ⟨rfl, hb1⟩
    go_upto_region 5 with fail
    have HC : Hid (∀ X, Below w1.heap.size w1 X → X.cell? ⟨b3, 0, none⟩ = some v1 ∧ X.cell? ⟨b3, 1, none⟩ = some v2 ∧ X.cell? ⟨b3 + 1, 0, none⟩ = some (.int .i64 r.pre) ∧ X.cell? ⟨b3 + 1, 1, none⟩ = some (.int .i64 r.bits) ∧ X.cell? ⟨b3 + 1, 2, none⟩ = some (.int .i64 r.hop)) :=
      hide fun X hX => ⟨((HB0.out.up hb1).up hX).cell 0, ((HB0.out.up hb1).up hX).cell 1, ((HQ0.out.up hb1).up hX).cell 0, ((HQ0.out.up hb1).up hX).cell 1, ((HQ0.out.up hb1).up hX).cell 2⟩
    have HV1 : Hid (∀ X, Below w1.heap.size w1 X → TbR X X.heap.size (.agg #[v1, v2]) t) := hide fun X hX => (HV.out.up hb1).up hX
    go_cut [6, 7] (fun s6 s7 wx => ∃ Z, s6 = .pointer (some ⟨Z, 0, none⟩) ∧ s7 = .bool k ∧ Hid (Boxed w1 wx u Z))
    case first =>
      obtain ⟨a0, a1, a2, a3, a4⟩ := HC.out w1 (Below.refl _ _)
      have hb3l := World.block_lt_of_cell? w1 _ a0
      have hb4l := World.block_lt_of_cell? w1 _ a2
      go_region_held3 (fun X => X.cell? ⟨b3, 0, none⟩ = some v1 ∧ X.cell? ⟨b3, 1, none⟩ = some v2 ∧ X.cell? ⟨b3 + 1, 0, none⟩ = some (.int .i64 r.pre) ∧ X.cell? ⟨b3 + 1, 1, none⟩ = some (.int .i64 r.bits) ∧ X.cell? ⟨b3 + 1, 2, none⟩ = some (.int .i64 r.hop))
        (first | go_keep | exact HC.out _ hB5 | exact HC.out _ hB4 | exact HC.out _ hB3 | exact HC.out _ (hB5.alloc hB5.size _) | exact HC.out _ (hB4.alloc hB4.size _) | exact HC.out _ (hB3.alloc hB3.size _) | exact HC.out _ (below1 w1 _) | exact HC.out _ (hB5.setCell (Nat.le_refl _) _) | exact HC.out _ ((hB5.setCell (Nat.le_refl _) _).setCell (Nat.le_refl _) _) | exact HC.out _ ((hB5.setCell hB3.size _).setCell hB3.size _) | exact HC.out _ ((hB5.setCell hB4.size _).setCell hB4.size _) | fail)
        (first
          | (go_at_call 24; refine (toT_any _ t _ (HV1.out _ ?_) hn2).mono ?_
             · first | exact (Below.refl _ _).drew | exact (below1 w1 _).drew
             rintro e w3 ⟨x3, rfl, hO3, hb3⟩
             have hB3 : Below w1.heap.size w1 w3 := by first | exact ((Below.refl _ _).drew).trans hb3 | exact ((below1 w1 _).drew).trans (hb3.mono (by simp))
             obtain ⟨A1, n1, k1, A2, n2, k2, rfl⟩ := hO3.lit
             try (have hZ3 := (show Blk (w1.alloc (.cells #[.slice none 0 0, .slice none 0 0] 30)).drew w1.heap.size 30 #[.slice none 0 0, .slice none 0 0] from Blk.new w1 _ _).up hb3)
             obtain ⟨a0, a1, a2, a3, a4⟩ := HC.out w3 hB3)
          | (go_at_call 46; refine (to1_any _ _ _ _).mono ?_
             rintro e w4 ⟨rfl, hb4⟩
             have hB34 : Below w3.heap.size w3 w4 := by first | exact hb4 | exact (below1 w3 _).trans (hb4.mono (by simp))
             have hB4 := hB3.trans (hB34.mono hB3.size)
             first | (have hZ4 := hZ3.up hb4) | (have hZ4 := (Blk.new w3 30 #[.slice none 0 0, .slice none 0 0]).up hb4) | skip
             obtain ⟨a0, a1, a2, a3, a4⟩ := HC.out w4 hB4)
          | (go_at_call 45; refine (specAdd_u _ t r u k _ HT.out ?_ hn2).mono ?_
             · first | exact hO3.tbr.up hB34 | exact hO3.tbr.up (hB34.trans ((below1 w4 _).mono hB34.size))
             rintro e w5 ⟨y5, rfl, hO5, hb5⟩
             have hB45 : Below w4.heap.size w4 w5 := by first | exact hb5 | exact (below1 w4 _).trans (hb5.mono (by simp))
             have hB5 := hB4.trans (hB45.mono hB4.size)
             obtain ⟨A3, n3, k3, A4, n4, k4, rfl⟩ := hO5.lit
             first | (have hZ5 := hZ4.up hb5) | (have hZ5 := (Blk.new w4 30 #[.slice none 0 0, .slice none 0 0]).up hb5) | skip
             try (have z0 := hZ5.cell 0; have z1 := hZ5.cell 1; have y0 := hZ5.free 0; have y1 := hZ5.free 1))
          | fail)
      all_goals
        go_wp2_with fail
        go_meet
        first
          | exact ⟨_, rfl, rfl, hide (boxed_new hB5 hO5 hB4.size)⟩
          | exact ⟨_, rfl, rfl, hide (boxed_set hB5 hO5 (by first | exact hB4.size | (have := hB4.size; simp; omega)) hZ5 rfl (by first | exact Nat.le_refl _ | exact hB3.size | exact hB4.size))⟩
    case rest =>
      obtain ⟨Y, rfl, rfl, HY⟩ := hcut
      obtain ⟨A1, n1, k1, A2, n2, k2, hbY, hYl, hYB, hYO⟩ := HY.out
      have hb3c := hb1.trans (hbY.mono hb1.size)
      obtain ⟨wy, hwy⟩ : ∃ wy, wy = wc := ⟨_, rfl⟩
      subst hwy
      clear HC HV1 HY hbY
      have cA := (HB0.out.up hb3c).cell 0
      have cB := (HB0.out.up hb3c).cell 1
      go_wp2_with fail
      refine (toT_any _ t _ (HV.out.up hb3c) hn2).mono ?_
      rintro e w5 ⟨x', rfl, hOx, hb5⟩
      clear cA cB
      obtain ⟨A3, n3, k3, A4, n4, k4, rfl⟩ := hOx.lit
      go_upto_region 7 with fail
      obtain ⟨XB, hX⟩ : ∃ X, X = w5.heap.size := ⟨_, rfl⟩
      obtain ⟨w6, hw6⟩ : ∃ w6, w6 = w5.alloc (Obj.cells #[.slice A3 n3 k3, .slice A4 n4 k4] 30) := ⟨_, rfl⟩
      have h56 : Below w5.heap.size w5 w6 := by rw [hw6]; exact below1 _ _
      have hb06 := (hb3c.trans (hb5.mono hb3c.size)).trans (h56.mono (Nat.le_trans hb3c.size hb5.size))
      have hBX : Blk w6 XB 30 #[.slice A3 n3 k3, .slice A4 n4 k4] := by rw [hw6, hX]; exact Blk.new _ _ _
      have hTX := hOx.tbr.up h56
      have hXl : b3 + 1 < XB := by rw [hX]; have := HQ0.out.lt; have := hb3c.size; have := hb5.size; omega
      have h6c := hb5.trans (h56.mono hb5.size)
      have hsX : wy.heap.size ≤ w5.heap.size := hb5.size
      have hs6 : w5.heap.size ≤ w6.heap.size := h56.size
      rw [← hw6, ← hX]
      clear hw6 hX hb5
      have HC : Hid (∀ X, Below w6.heap.size w6 X → X.cell? ⟨XB, 0, none⟩ = some (.slice A3 n3 k3) ∧ X.cell? ⟨XB, 1, none⟩ = some (.slice A4 n4 k4) ∧ X.cell? ⟨b3 + 1, 0, none⟩ = some (.int .i64 r.pre) ∧ X.cell? ⟨b3 + 1, 1, none⟩ = some (.int .i64 r.bits) ∧ X.cell? ⟨b3 + 1, 2, none⟩ = some (.int .i64 r.hop)) :=
        hide fun X hX => ⟨(hBX.up hX).cell 0, (hBX.up hX).cell 1, ((HQ0.out.up hb06).up hX).cell 0, ((HQ0.out.up hb06).up hX).cell 1, ((HQ0.out.up hb06).up hX).cell 2⟩
      have HV1 : Hid (∀ X, Below w6.heap.size w6 X → TbR X X.heap.size (.agg #[(.slice A3 n3 k3), (.slice A4 n4 k4)]) t) := hide fun X hX => (hTX).up hX
      go_cut [9, 10] (fun s6 s7 wx => ∃ Z, s6 = .pointer (some ⟨Z, 0, none⟩) ∧ s7 = .bool k ∧ Hid (Boxed w6 wx u Z))
      case first =>
        obtain ⟨a0, a1, a2, a3, a4⟩ := HC.out w6 (Below.refl _ _)
        have hb3l := World.block_lt_of_cell? w6 _ a0
        have hb4l := World.block_lt_of_cell? w6 _ a2
        have hXR : XB ≠ b3 + 1 := by intro h; have := hXl; omega
        have hRX : b3 + 1 ≠ XB := Ne.symm hXR
        go_region_held3 (fun X => X.cell? ⟨XB, 0, none⟩ = some (.slice A3 n3 k3) ∧ X.cell? ⟨XB, 1, none⟩ = some (.slice A4 n4 k4) ∧ X.cell? ⟨b3 + 1, 0, none⟩ = some (.int .i64 r.pre) ∧ X.cell? ⟨b3 + 1, 1, none⟩ = some (.int .i64 r.bits) ∧ X.cell? ⟨b3 + 1, 2, none⟩ = some (.int .i64 r.hop))
          (first | go_keep | exact HC.out _ hB5 | exact HC.out _ hB4 | exact HC.out _ (hB5.alloc hB5.size _) | exact HC.out _ (hB4.alloc hB4.size _) | exact HC.out _ (below1 w6 _) | exact HC.out _ (hB5.setCell (Nat.le_refl _) _) | exact HC.out _ ((hB5.setCell (Nat.le_refl _) _).setCell (Nat.le_refl _) _) | exact HC.out _ ((hB5.setCell hB4.size _).setCell hB4.size _) | fail)
          (first
            | (go_at_call 46; refine (to1_any _ _ _ _).mono ?_
               rintro e w4 ⟨rfl, hb4⟩
               have hB4 : Below w6.heap.size w6 w4 := by first | exact ((Below.refl _ _).drew).trans hb4 | exact ((below1 w6 _).drew).trans (hb4.mono (by simp))
               try (have hZ4 := (show Blk (w6.alloc (.cells #[.slice none 0 0, .slice none 0 0] 30)).drew w6.heap.size 30 #[.slice none 0 0, .slice none 0 0] from Blk.new w6 _ _).up hb4)
               obtain ⟨a0, a1, a2, a3, a4⟩ := HC.out w4 hB4)
            | (go_at_call 44; refine (add_u _ t r u k _ HT.out ?_ hn2).mono ?_
               · first | exact HV1.out _ hB4 | exact HV1.out _ (hB4.trans ((below1 w4 _).mono hB4.size))
               rintro e w5 ⟨y5, rfl, hO5, hb5⟩
               have hB45 : Below w4.heap.size w4 w5 := by first | exact hb5 | exact (below1 w4 _).trans (hb5.mono (by simp))
               have hB5 := hB4.trans (hB45.mono hB4.size)
               obtain ⟨A3, n3, k3, A4, n4, k4, rfl⟩ := hO5.lit
               first | (have hZ5 := hZ4.up hb5) | (have hZ5 := (Blk.new w4 30 #[.slice none 0 0, .slice none 0 0]).up hb5) | skip
               try (have z0 := hZ5.cell 0; have z1 := hZ5.cell 1; have y0 := hZ5.free 0; have y1 := hZ5.free 1))
            | fail)
        all_goals
          go_wp2_with fail
          go_meet
          first
            | exact ⟨_, rfl, rfl, hide (boxed_new hB5 hO5 hB4.size)⟩
            | exact ⟨_, rfl, rfl, hide (boxed_set hB5 hO5 (by first | exact hB4.size | (have := hB4.size; simp; omega)) hZ5 rfl (by first | exact Nat.le_refl _ | exact hB4.size))⟩
      case rest =>
        obtain ⟨G, rfl, rfl, HG⟩ := hcut
        obtain ⟨A5, n5, k5, A6, n6, k6, hbG, hGl, hGB, hGO⟩ := HG.out
        obtain ⟨wg, hwg⟩ : ∃ wg, wg = wc := ⟨_, rfl⟩
        subst hwg
        have h5g := h56.trans (hbG.mono h56.size)
        have hyg := h6c.trans (hbG.mono h6c.size)
        have X8 : ExX wb wg b3 Y XB G #[v1, v2] #[.slice A1 n1 k1, .slice A2 n2 k2] #[.slice A3 n3 k3, .slice A4 n4 k4] #[.slice A5 n5 k5, .slice A6 n6 k6] (.agg #[.slice A1 n1 k1, .slice A2 n2 k2]) (.agg #[.slice A5 n5 k5, .slice A6 n6 k6]) (.agg #[.slice A3 n3 k3, .slice A4 n4 k4]) u u t :=
          ⟨⟨hb06.trans (hbG.mono hb06.size), HB0.out.up (hb06.trans (hbG.mono hb06.size)), hYB.up hyg, hGB, (hYO.below hyg).low hb1.size, hGO.low hb06.size, (hYO.dis hGO h6c.size).1⟩,
           hBX.up hbG, (hOx.below h5g).low hb3c.size, (hYO.dis hOx (Nat.le_refl _)).1, (hOx.dis hGO h56.size).2⟩
        have X8 := hide X8
        clear HC HV1 HG hbG h5g hyg h56 h6c hb06 hb3c hYB hYO hOx hGB hGO hBX hTX hs6 hsX hGl hYl hb1
        have hne : (k != k) = false := by simp
        have cA := X8.out.e.t3.cell 0
        have cB := X8.out.e.t3.cell 1
        have cC := X8.out.e.t8.cell 0
        have cD := X8.out.e.t8.cell 1
        have cE := X8.out.e.t11.cell 0
        have cF := X8.out.e.t11.cell 1
        go_wp2_with fail
        refine (eqT_any _ _ u u _ X8.out.e.og.tbr X8.out.e.oy.tbr hlo hlo).mono ?_
        rintro e w9 ⟨rfl, hb9⟩
        rw [eqB_self]
        have X9 := hide (X8.out.below hb9)
        clear X8 hb9
        clear cA cB cC cD cE cF
        have cA := X9.out.e.t3.cell 0
        have cB := X9.out.e.t3.cell 1
        have cC := X9.out.e.t8.cell 0
        have cD := X9.out.e.t8.cell 1
        have cE := X9.out.e.t11.cell 0
        have cF := X9.out.e.t11.cell 1
        have cX := X9.out.t10.cell 0
        have cY := X9.out.t10.cell 1
        go_wp2_with fail
        have hv9 := HV.out.up X9.out.e.bw.drew
        go_region_held3 (fun w' => w'.cell? ⟨b3, 0, none⟩ = some v1 ∧ w'.cell? ⟨b3, 1, none⟩ = some v2 ∧ w'.cell? ⟨XB, 0, none⟩ = some (.slice A3 n3 k3) ∧ w'.cell? ⟨XB, 1, none⟩ = some (.slice A4 n4 k4)) (first | go_keep | exact ⟨cA7, cB7, cX7, cY7⟩ | fail) (first | (go_at_call 24; refine (toT_any _ t _ hv9 hn2).mono ?_; rintro e w10 ⟨z, rfl, hO10, hb10'⟩; have cA7 := (hb10'.cell (World.block_lt_of_cell? w9.drew _ cA)).trans cA; have cB7 := (hb10'.cell (World.block_lt_of_cell? w9.drew _ cB)).trans cB; have cX7 := (hb10'.cell (World.block_lt_of_cell? w9.drew _ cX)).trans cX; have cY7 := (hb10'.cell (World.block_lt_of_cell? w9.drew _ cY)).trans cY) | (go_at_call 26; refine (eqT_any _ z t t _ ((X9.out.drew.below hb10').ox.tbr) hO10.tbr hn2 hn2).mono ?_; rintro e w11 ⟨rfl, hb11'⟩; rw [eqB_self]; have cA7 := (hb11'.cell (World.block_lt_of_cell? w10 _ cA7)).trans cA7; have cB7 := (hb11'.cell (World.block_lt_of_cell? w10 _ cB7)).trans cB7; have cX7 := (hb11'.cell (World.block_lt_of_cell? w10 _ cX7)).trans cX7; have cY7 := (hb11'.cell (World.block_lt_of_cell? w10 _ cY7)).trans cY7) | fail)
        have X11 := hide ((X9.out.drew.below hb10').below hb11')
        clear X9 hb10' hb11' hv9 hO10 cX cY cA7 cB7 cX7 cY7
        clear cA cB cC cD cE cF
        have cX := X11.out.t10.cell 0
        have cY := X11.out.t10.cell 1
        obtain ⟨K, hK⟩ : ∃ K : Int, K = 1 + 3 * (t.routes.length : Int) + (t.hops.length : Int) := ⟨_, rfl⟩
        have hK0 : 0 ≤ K := by omega
        have hK1 : K ≤ 9223372036854775807 := by omega
        go_wp2_with fail
        refine (markT_k _ t _ K _ X11.out.ox hn2 hK).mono ?_
        rintro e w12 ⟨rfl, hom, hm12, hb12⟩
        have E12 := hide (X11.out.mark hm12 hb12)
        clear hom hm12 hb12 X11 cX cY hK
        have cA := E12.out.t3.cell 0
        have cB := E12.out.t3.cell 1
        have cC := E12.out.t8.cell 0
        have cD := E12.out.t8.cell 1
        have cE := E12.out.t11.cell 0
        have cF := E12.out.t11.cell 1
        go_wp2_with fail
        refine (eqT_any _ _ u u _ E12.out.og.tbr E12.out.oy.tbr hlo hlo).mono ?_
        rintro e w13 ⟨rfl, hb13⟩
        rw [eqB_self]
        have E13 := hide (E12.out.below hb13)
        clear E12 hb13
        clear cA cB cC cD cE cF
        have cA := E13.out.t3.cell 0
        have cB := E13.out.t3.cell 1
        have cC := E13.out.t8.cell 0
        have cD := E13.out.t8.cell 1
        have cE := E13.out.t11.cell 0
        have cF := E13.out.t11.cell 1
        obtain ⟨M, hM⟩ : ∃ M : Int, M = 1 + 3 * (u.routes.length : Int) + (u.hops.length : Int) := ⟨_, rfl⟩
        have hM0 : 0 ≤ M := by omega
        have hM1 : M ≤ 9223372036854775807 := by omega
        have hMM : (M != M) = false := by simp
        go_wp2_with fail
        refine (markT_k _ u _ M _ E13.out.og hlo hM).mono ?_
        rintro e w14 ⟨rfl, hog, hm14, hb14⟩
        have E14 := hide (E13.out.markG hog hm14 (hb14 E13.out.bw.size))
        clear hog hm14 hb14 E13
        clear cA cB cC cD cE cF
        have cA := E14.out.t3.cell 0
        have cB := E14.out.t3.cell 1
        have cC := E14.out.t8.cell 0
        have cD := E14.out.t8.cell 1
        have cE := E14.out.t11.cell 0
        have cF := E14.out.t11.cell 1
        go_wp2_with fail
        refine (heldT_k _ u M _ E14.out.og.tbr hlo hM).mono ?_
        rintro e w15 ⟨rfl, hb15⟩
        have E15 := hide (E14.out.below hb15)
        clear E14 hb15
        clear cA cB cC cD cE cF
        have cA := E15.out.t3.cell 0
        have cB := E15.out.t3.cell 1
        have cC := E15.out.t8.cell 0
        have cD := E15.out.t8.cell 1
        have cE := E15.out.t11.cell 0
        have cF := E15.out.t11.cell 1
        go_upto_region 24 with fail
        have hb015 := E15.out.bw
        clear cA cB cC cD cE cF
        have HC : Hid (∀ X, Below w15.heap.size w15 X → X.cell? ⟨b3, 0, none⟩ = some v1 ∧ X.cell? ⟨b3, 1, none⟩ = some v2 ∧ X.cell? ⟨b3 + 1, 0, none⟩ = some (.int .i64 r.pre) ∧ X.cell? ⟨b3 + 1, 1, none⟩ = some (.int .i64 r.bits) ∧ X.cell? ⟨b3 + 1, 2, none⟩ = some (.int .i64 r.hop)) :=
          hide fun X hX => ⟨((HB0.out.up hb015).up hX).cell 0, ((HB0.out.up hb015).up hX).cell 1, ((HQ0.out.up hb015).up hX).cell 0, ((HQ0.out.up hb015).up hX).cell 1, ((HQ0.out.up hb015).up hX).cell 2⟩
        have HV1 : Hid (∀ X, Below w15.heap.size w15 X → TbR X X.heap.size (.agg #[v1, v2]) t) := hide fun X hX => (HV.out.up hb015).up hX
        go_cut [14, 15] (fun s6 s7 wx => ∃ Z, s6 = .pointer (some ⟨Z, 0, none⟩) ∧ s7 = .bool k ∧ Hid (Boxed w15 wx u Z))
        case first =>
          obtain ⟨a0, a1, a2, a3, a4⟩ := HC.out w15 (Below.refl _ _)
          have hb3l := World.block_lt_of_cell? w15 _ a0
          have hb4l := World.block_lt_of_cell? w15 _ a2
          go_region_held3 (fun X => X.cell? ⟨b3, 0, none⟩ = some v1 ∧ X.cell? ⟨b3, 1, none⟩ = some v2 ∧ X.cell? ⟨b3 + 1, 0, none⟩ = some (.int .i64 r.pre) ∧ X.cell? ⟨b3 + 1, 1, none⟩ = some (.int .i64 r.bits) ∧ X.cell? ⟨b3 + 1, 2, none⟩ = some (.int .i64 r.hop))
            (first | go_keep | exact HC.out _ hB5 | exact HC.out _ hB4 | exact HC.out _ hB3 | exact HC.out _ (hB5.alloc hB5.size _) | exact HC.out _ (hB4.alloc hB4.size _) | exact HC.out _ (hB3.alloc hB3.size _) | exact HC.out _ (below1 w15 _) | exact HC.out _ (hB5.setCell (Nat.le_refl _) _) | exact HC.out _ ((hB5.setCell (Nat.le_refl _) _).setCell (Nat.le_refl _) _) | exact HC.out _ ((hB5.setCell hB3.size _).setCell hB3.size _) | exact HC.out _ ((hB5.setCell hB4.size _).setCell hB4.size _) | fail)
            (first
              | (go_at_call 24; refine (toT_any _ t _ (HV1.out _ ?_) hn2).mono ?_
                 · first | exact (Below.refl _ _).drew | exact (below1 w15 _).drew
                 rintro e w3 ⟨x3, rfl, hO3, hb3⟩
                 have hB3 : Below w15.heap.size w15 w3 := by first | exact ((Below.refl _ _).drew).trans hb3 | exact ((below1 w15 _).drew).trans (hb3.mono (by simp))
                 obtain ⟨A1, n1, k1, A2, n2, k2, rfl⟩ := hO3.lit
                 try (have hZ3 := (show Blk (w15.alloc (.cells #[.slice none 0 0, .slice none 0 0] 30)).drew w15.heap.size 30 #[.slice none 0 0, .slice none 0 0] from Blk.new w15 _ _).up hb3)
                 obtain ⟨a0, a1, a2, a3, a4⟩ := HC.out w3 hB3)
              | (go_at_call 46; refine (to1_any _ _ _ _).mono ?_
                 rintro e w4 ⟨rfl, hb4⟩
                 have hB34 : Below w3.heap.size w3 w4 := by first | exact hb4 | exact (below1 w3 _).trans (hb4.mono (by simp))
                 have hB4 := hB3.trans (hB34.mono hB3.size)
                 first | (have hZ4 := hZ3.up hb4) | (have hZ4 := (Blk.new w3 30 #[.slice none 0 0, .slice none 0 0]).up hb4) | skip
                 obtain ⟨a0, a1, a2, a3, a4⟩ := HC.out w4 hB4)
              | (go_at_call 44; refine (add_u _ t r u k _ HT.out ?_ hn2).mono ?_
                 · first | exact hO3.tbr.up hB34 | exact hO3.tbr.up (hB34.trans ((below1 w4 _).mono hB34.size))
                 rintro e w5 ⟨y5, rfl, hO5, hb5⟩
                 have hB45 : Below w4.heap.size w4 w5 := by first | exact hb5 | exact (below1 w4 _).trans (hb5.mono (by simp))
                 have hB5 := hB4.trans (hB45.mono hB4.size)
                 obtain ⟨A3, n3, k3, A4, n4, k4, rfl⟩ := hO5.lit
                 first | (have hZ5 := hZ4.up hb5) | (have hZ5 := (Blk.new w4 30 #[.slice none 0 0, .slice none 0 0]).up hb5) | skip
                 try (have z0 := hZ5.cell 0; have z1 := hZ5.cell 1; have y0 := hZ5.free 0; have y1 := hZ5.free 1))
              | fail)
          all_goals
            go_wp2_with fail
            go_meet
            first
              | exact ⟨_, rfl, rfl, hide (boxed_new hB5 hO5 hB4.size)⟩
              | exact ⟨_, rfl, rfl, hide (boxed_set hB5 hO5 (by first | exact hB4.size | (have := hB4.size; simp; omega)) hZ5 rfl (by first | exact Nat.le_refl _ | exact hB3.size | exact hB4.size))⟩
        case rest =>
          obtain ⟨Q, rfl, rfl, HQ⟩ := hcut
          obtain ⟨A7, n7, k7, A8, n8, k8, hbQ, hQl, hQB, hQO⟩ := HQ.out
          obtain ⟨wq, hwq⟩ : ∃ wq, wq = wc := ⟨_, rfl⟩
          subst hwq
          have E18 := hide (E15.out.below hbQ)
          clear E15 HC HV1 HQ hbQ hb015
          have cA := E18.out.t3.cell 0
          have cB := E18.out.t3.cell 1
          have cC := E18.out.t8.cell 0
          have cD := E18.out.t8.cell 1
          have cE := E18.out.t11.cell 0
          have cF := E18.out.t11.cell 1
          have cX := hQB.cell 0
          have cY := hQB.cell 1
          go_wp2_with fail
          refine (eqT_any _ _ u u _ hQO.tbr E18.out.oy.tbr hlo hlo).mono ?_
          rintro e w19 ⟨rfl, hb19⟩
          rw [eqB_self]
          have E19 := hide (E18.out.below hb19)
          clear E18 hb19 hQO hQB cX cY
          clear cA cB cC cD cE cF
          have cA := E19.out.t3.cell 0
          have cB := E19.out.t3.cell 1
          have cC := E19.out.t8.cell 0
          have cD := E19.out.t8.cell 1
          have cE := E19.out.t11.cell 0
          have cF := E19.out.t11.cell 1
          clear cC cD
          go_wp2_with fail
          refine (heldT_k _ u M _ E19.out.og.tbr hlo hM).mono ?_
          rintro e w20 ⟨rfl, hb20⟩
          have hbf := E19.out.bw.trans (hb20.mono E19.out.bw.size)
          go_wp2
          go_ret
          exact ⟨rfl, hb00.trans (hbf.mono hb00.size)⟩
  · go_enter Try.func21, Try.ntmps21
    go_wp2_with fail
    rw [← hwb]
    clear hwb hb3'
    refine (szT_over _ t _ HV.out (by omega) hm).mono ?_
    rintro e w1 ⟨rfl, hb1⟩
    go_wp2
    go_ret
    exact ⟨rfl, hb00.trans (hb1.mono hb00.size)⟩
end Go.Proofs.Ytlkchocjldllgaa
