/- The reference's copy of a table. Conditions: at most 1048576 routes and hops. -/
import Derived.Test.YtlkchocjldllgaaCopyT
import Derived.Test.YtlkchocjldllgaaApp
namespace Go.Proofs.Ytlkchocjldllgaa
open Go.RowKit

theorem infR : SlInf Try.prog 28 40 rc 3 := by
  obtain ⟨i0, hi, hz0, hz1, hz2⟩ := info_parts Try.infoR
  exact ⟨Try.underlying28, ⟨i0, _, hi, hz0, hz1, by rw [hz2]; decide, rfl⟩, by decide, rc_len, rc_one⟩
theorem infI : SlInf Try.prog 23 3 ic 1 := by
  obtain ⟨i0, hi, hz0, hz1, hz2⟩ := info_parts Try.infoI
  exact ⟨Try.underlying23, ⟨i0, _, hi, hz0, hz1, by rw [hz2]; decide, rfl⟩, by decide, ic_len, ic_one⟩

theorem copied {w wb w' : World} {v1 v2 x1 x2 : Value} {t : Tab} (h1 : Own rc 40 3 w' wb.heap.size v1 ([] ++ t.routes)) (h2 : Own ic 3 1 w' wb.heap.size v2 ([] ++ t.hops)) (hle : w.heap.size ≤ wb.heap.size) (hlt : w.heap.size + 1 < wb.heap.size) (hne : (40 : TypeId) ≠ 3) :
    OwnT ((w'.setCell ⟨w.heap.size + 1, 0, none⟩ x1).setCell ⟨w.heap.size + 1, 1, none⟩ x2) w.heap.size (.agg #[v1, v2]) t := by
  have hs := own_types h1 h2 hne
  rw [List.nil_append] at h1 h2
  have l1 := World.ownsRow.lt h1
  have l2 := World.ownsRow.lt h2
  exact ownT_mk (Own.low (own_far (own_far h1 (fun q hq => by have := (l1 q hq).1; show q ≠ w.heap.size + 1; omega) _) (fun q hq => by have := (l1 q hq).1; show q ≠ w.heap.size + 1; omega) _) hle)
    (Own.low (own_far (own_far h2 (fun q hq => by have := (l2 q hq).1; show q ≠ w.heap.size + 1; omega) _) (fun q hq => by have := (l2 q hq).1; show q ≠ w.heap.size + 1; omega) _) hle) hs
set_option maxHeartbeats 800000 in
theorem l23Copy_any (v : Value) (t : Tab) (w : World) (hv : TbR w w.heap.size v t) (hn : t.routes.length ≤ 1048576 ∧ t.hops.length ≤ 1048576) :
    Calls Try.prog 66 #[v] w fun e w' => ∃ v', e = .returned v' ∧ OwnT w' w.heap.size v' t ∧ Below w.heap.size w w' := by
  obtain ⟨v1, v2, rfl, h1, h2⟩ := hv
  obtain ⟨A1, cap1, rfl, _⟩ := h1.form
  obtain ⟨A2, cap2, rfl, _⟩ := h2.form
  obtain ⟨hn1, hn2⟩ := hn
  obtain ⟨nl, hnl⟩ : ∃ nl, nl = Value.slice none 0 0 := ⟨_, rfl⟩
  obtain ⟨wb, hwb⟩ : ∃ wb, wb = (w.alloc (Obj.cells #[.slice A1 t.routes.length cap1, .slice A2 t.hops.length cap2] 30)).alloc (Obj.cells #[nl, nl] 30) := ⟨_, rfl⟩
  have hbw : Below w.heap.size w wb := by rw [hwb]; exact below2 _ _ _
  have BB : Blk wb w.heap.size 30 #[.slice A1 t.routes.length cap1, .slice A2 t.hops.length cap2] := by rw [hwb]; exact (Blk.new _ _ _).alloc _
  have BR : Blk wb (w.heap.size + 1) 30 #[nl, nl] := by
    have h := Blk.new (w.alloc (Obj.cells #[.slice A1 t.routes.length cap1, .slice A2 t.hops.length cap2] 30)) 30 #[nl, nl]
    rw [hwb]; simpa using h
  rw [hnl] at hwb
  go_enter Try.func66, Try.ntmps66
  go_upto_region 1 with fail
  rw [← hwb]
  clear hwb
  have hl1 : ∀ W, Below wb.heap.size wb W → SlR rc 3 W wb.heap.size (.slice A1 t.routes.length cap1) t.routes := fun W h => (h1.up hbw).below h
  have hl2 : ∀ W, Below wb.heap.size wb W → SlR ic 1 W wb.heap.size (.slice A2 t.hops.length cap2) t.hops := fun W h => (h2.up hbw).below h
  have hbd := hbw.drew
  have c0 := BB.cell 0
  have c1 := BB.cell 1
  have lt1 := BB.lt
  have lt2 := BR.lt
  have HBR := hide BR
  clear BB BR
  have hle := hbw.size
  have hsz : wb.heap.size ≤ wb.drew.heap.size := Nat.le_refl _
  have hne1 : (3 : TypeId) ≠ 40 := by decide
  have hne2 : (40 : TypeId) ≠ 3 := by decide
  go_region_held3 (fun w' => w'.cell? ⟨w.heap.size, 0, none⟩ = some (.slice A1 t.routes.length cap1) ∧ w'.cell? ⟨w.heap.size, 1, none⟩ = some (.slice A2 t.hops.length cap2)) (first | go_keep | exact ⟨(hB1.cell (p := ⟨w.heap.size, 0, none⟩) lt1).trans c0, (hB1.cell (p := ⟨w.heap.size, 1, none⟩) lt1).trans c1⟩ | exact ⟨(hB2.cell (p := ⟨w.heap.size, 0, none⟩) lt1).trans c0, (hB2.cell (p := ⟨w.heap.size, 1, none⟩) lt1).trans c1⟩)
    (first
      | (refine step_app2 (B := wb.heap.size) (e2 := 3) (enc2 := ic) (s2 := 1) (by rfl) infR (.tmp 3) (.tmp 5) (by rfl) _ _ ?_ (by rfl) (by rfl) wb [] t.routes ?_ hne1 ?_ ?_ ?_ ?_ ?_ ?_
         rotate_left 2
         · first | exact hRo2 | exact ownE wb.drew _ hsz | exact (ownE wb.drew _ hsz).below (below1 _ _) | exact ownE1 wb.drew _ _ hsz | exact ownE w2 _ hB2.size
         · first | exact Own.nil _ _ _ (wb.alloc (Obj.cells #[] 40)).drew _ | exact hO2 | exact hO2.below (below1 _ _) | exact (ownE wb.drew _ hsz).below (below1 _ _) | exact ownE1 wb.drew _ _ hsz
         · first | exact (below1 wb _).drew | exact (below2 wb _ _).drew | exact hB2 | exact hB2.alloc hB2.size _
         · first | exact hl1 _ ((below1 wb _).drew) | exact hl1 _ ((below2 wb _ _).drew) | exact hl1 _ hB2 | exact hl1 _ (hB2.alloc hB2.size _)
         · simp; omega
         intro Ax capx w1 hO1 hIo1 hB1
         have BR1 := HBR.out.below hB1 lt2
         have d2 := BR1.cell 0
         have d3 := BR1.cell 1
         have d4 := BR1.free 0
         have d5 := BR1.free 1)
      | (refine step_app2 (B := wb.heap.size) (e2 := 40) (enc2 := rc) (s2 := 3) (by rfl) infI (.tmp 7) (.tmp 9) (by rfl) _ _ ?_ (by rfl) (by rfl) wb [] t.hops ?_ hne2 ?_ ?_ ?_ ?_ ?_ ?_
         rotate_left 2
         · first | exact hIo1 | exact ownE wb.drew _ hsz | exact (ownE wb.drew _ hsz).below (below1 _ _) | exact ownE1 wb.drew _ _ hsz | exact ownE w1 _ hB1.size
         · first | exact Own.nil _ _ _ (wb.alloc (Obj.cells #[] 3)).drew _ | exact hO1 | exact hO1.below (below1 _ _) | exact (ownE wb.drew _ hsz).below (below1 _ _) | exact ownE1 wb.drew _ _ hsz
         · first | exact (below1 wb _).drew | exact (below2 wb _ _).drew | exact hB1 | exact hB1.alloc hB1.size _
         · first | exact hl2 _ ((below1 wb _).drew) | exact hl2 _ ((below2 wb _ _).drew) | exact hl2 _ hB1 | exact hl2 _ (hB1.alloc hB1.size _)
         · simp; omega
         intro Ay capy w2 hO2 hRo2 hB2
         have BR2 := HBR.out.below hB2 lt2
         have f2 := BR2.cell 0
         have f3 := BR2.cell 1
         have f4 := BR2.free 0
         have f5 := BR2.free 1)
      | fail)
  all_goals (go_wp2_with fail)
  all_goals first
    | (refine bodyPost_ret (v := .agg #[.slice Ax ([].length + t.routes.length) capx, .slice Ay ([].length + t.hops.length) capy]) (by simp [results, Try.results66, go_sem, f2, f3]) rfl ⟨_, rfl, copied hRo2 hO2 hle lt2 hne2, (hbw.trans (hB2.mono hle)).setCell (Nat.le_succ _) _ |>.setCell (Nat.le_succ _) _⟩; done)
    | (refine bodyPost_ret (v := .agg #[.slice Ax ([].length + t.routes.length) capx, .slice Ay ([].length + t.hops.length) capy]) (by simp [results, Try.results66, go_sem, d2, d3]) rfl ⟨_, rfl, copied hO1 hIo1 hle lt2 hne2, (hbw.trans (hB1.mono hle)).setCell (Nat.le_succ _) _ |>.setCell (Nat.le_succ _) _⟩; done)
end Go.Proofs.Ytlkchocjldllgaa
