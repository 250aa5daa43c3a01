/- Copying a table: slices.Clone, copyTable. Conditions: at most 1048576 routes and hops. -/
import Derived.Test.YtlkchocjldllgaaTabE
import Derived.Lib.SliceRun
import Derived.Deep.RegionHeld3
namespace Go.Proofs.Ytlkchocjldllgaa
open Go.RowKit

theorem cloneR_any (v : Value) (cs : List Rt) (w : World) (hv : SlR rc 3 w w.heap.size v cs) (hn : cs.length ≤ 1048576) :
    Calls Try.prog 80 #[v] w fun e w' => ∃ v', e = .returned v' ∧ Own rc 40 3 w' w.heap.size v' cs ∧ Below w.heap.size w w' := by
  have hv0 := hv
  obtain ⟨A, cap, rfl, hc, hr⟩ := hv
  have hsn := fun W => Go.Lib.run_eql_slice_nil (P := Try.prog) W 28 40 A cs.length cap 0 0 Try.underlying28
  obtain ⟨i0, hi, hz0, hz1, hz2⟩ := info_parts Try.infoR
  cases A with
  | none =>
    have hcs := hv0.none_nil
    subst hcs
    clear hv0 hr
    simp only [List.length_nil, Option.isNone_none] at hsn
    go_enter Try.func80, Try.ntmps80
    go_wp2
    go_ret
    exact ⟨_, rfl, Own.nil _ _ _ _ _, Below.refl _ _⟩
  | some ad =>
    have hnews := hv0.news rc_len
    have hx1 : 0 + cs.length ≤ maxLen := by unfold maxLen; omega
    have hx2 : (0 + cs.length) * 24 ≤ 140737488355328 := by omega
    have hl := flat_len rc_len cs
    have HL := hide hl
    clear hr hl hv0
    go_enter Try.func80, Try.ntmps80
    go_wp2_with (at_builtin; refine wpList_append_own _ rfl (.tmp 5) (.tmp 6) 28 rfl w.heap.size 40 i0 _ 3 24 Try.underlying28 hi hz0 hz1 hz2 rfl (by decide) (.slice (some ⟨w.heap.size, 0, none⟩) 0 0) 0 [] rfl (own_fresh (enc := rc) w _) ad cs.length cap (cs.flatMap rc) rfl HL.out (hnews _ (below1 _ _)) (flat_one rc_one cs) hx1 hx2 (by simp) ?_; intro v9 w9 own9 hg9 hnil9)
    have hb9 : Below w.heap.size w w9 := (below1 w _).grown hg9 (by simp) (fun k hk => by simp [Value.ownBlock] at hk; omega)
    have ho9 : Own rc 40 3 w9 w.heap.size v9 cs := by simpa [Own] using own9
    clear own9 hg9 hnil9
    go_wp2
    go_ret
    exact ⟨_, rfl, ho9, hb9⟩
theorem cloneI_any (v : Value) (cs : List Int) (w : World) (hv : SlR ic 1 w w.heap.size v cs) (hn : cs.length ≤ 1048576) :
    Calls Try.prog 81 #[v] w fun e w' => ∃ v', e = .returned v' ∧ Own ic 3 1 w' w.heap.size v' cs ∧ Below w.heap.size w w' := by
  have hv0 := hv
  obtain ⟨A, cap, rfl, hc, hr⟩ := hv
  have hsn := fun W => Go.Lib.run_eql_slice_nil (P := Try.prog) W 23 3 A cs.length cap 0 0 Try.underlying23
  obtain ⟨i0, hi, hz0, hz1, hz2⟩ := info_parts Try.infoI
  cases A with
  | none =>
    have hcs := hv0.none_nil
    subst hcs
    clear hv0 hr
    simp only [List.length_nil, Option.isNone_none] at hsn
    go_enter Try.func81, Try.ntmps81
    go_wp2
    go_ret
    exact ⟨_, rfl, Own.nil _ _ _ _ _, Below.refl _ _⟩
  | some ad =>
    have hnews := hv0.news ic_len
    have hx1 : 0 + cs.length ≤ maxLen := by unfold maxLen; omega
    have hx2 : (0 + cs.length) * 8 ≤ 140737488355328 := by omega
    have hl := flat_len ic_len cs
    have HL := hide hl
    clear hr hl hv0
    go_enter Try.func81, Try.ntmps81
    go_wp2_with (at_builtin; refine wpList_append_own _ rfl (.tmp 5) (.tmp 6) 23 rfl w.heap.size 3 i0 _ 1 8 Try.underlying23 hi hz0 hz1 hz2 rfl (by decide) (.slice (some ⟨w.heap.size, 0, none⟩) 0 0) 0 [] rfl (own_fresh (enc := ic) w _) ad cs.length cap (cs.flatMap ic) rfl HL.out (hnews _ (below1 _ _)) (flat_one ic_one cs) hx1 hx2 (by simp) ?_; intro v9 w9 own9 hg9 hnil9)
    have hb9 : Below w.heap.size w w9 := (below1 w _).grown hg9 (by simp) (fun k hk => by simp [Value.ownBlock] at hk; omega)
    have ho9 : Own ic 3 1 w9 w.heap.size v9 cs := by simpa [Own] using own9
    clear own9 hg9 hnil9
    go_wp2
    go_ret
    exact ⟨_, rfl, ho9, hb9⟩

/-- Two slices of the call's own that lie apart, as a table. -/
theorem ownT_mk {w : World} {base : Nat} {v1 v2 : Value} {t : Tab} (h1 : Own rc 40 3 w base v1 t.routes) (h2 : Own ic 3 1 w base v2 t.hops) (h3 : ∀ q, v1.ownBlock = some q → v2.ownBlock ≠ some q) : OwnT w base (.agg #[v1, v2]) t :=
  ⟨v1, v2, rfl, h1, h2, h3⟩
theorem own_apart {α β : Type} {enc : α → List Value} {enc' : β → List Value} {e e' s s' base base' : Nat} {w w' : World} {v v' : Value} {l : List α} {l' : List β} (h : Own enc e s w base v l) (h' : Own enc' e' s' w' base' v' l') (hw : w.heap.size ≤ base') :
    (∀ q, v.ownBlock = some q → v'.ownBlock ≠ some q) ∧ (∀ q, v'.ownBlock = some q → v.ownBlock ≠ some q) := by
  refine ⟨fun q h1 h2 => ?_, fun q h2 h1 => ?_⟩
  all_goals
    have := (World.ownsRow.lt h q h1).2
    have := (World.ownsRow.lt h' q h2).1
    omega

set_option maxHeartbeats 800000 in
theorem copyTable_any (v : Value) (t : Tab) (w : World) (hv : TbR w w.heap.size v t) (hn : t.routes.length ≤ 1048576 ∧ t.hops.length ≤ 1048576) :
    Calls Try.prog 65 #[v] w fun e w' => ∃ v', e = .returned v' ∧ OwnT w' w.heap.size v' t ∧ Below w.heap.size w w' := by
  obtain ⟨v1, v2, rfl, h1, h2⟩ := hv
  obtain ⟨hn1, hn2⟩ := hn
  obtain ⟨nl, hnl⟩ : ∃ nl, nl = Value.slice none 0 0 := ⟨_, rfl⟩
  obtain ⟨wb, hwb⟩ : ∃ wb, wb = (w.alloc (Obj.cells #[v1, v2] 30)).alloc (Obj.cells #[nl, nl] 30) := ⟨_, rfl⟩
  have hbw : Below w.heap.size w wb := by rw [hwb]; exact below2 _ _ _
  have BB : Blk wb w.heap.size 30 #[v1, v2] := by rw [hwb]; exact (Blk.new _ _ _).alloc _
  have BR : Blk wb (w.heap.size + 1) 30 #[nl, nl] := by
    have h := Blk.new (w.alloc (Obj.cells #[v1, v2] 30)) 30 #[nl, nl]
    rw [hwb]; simpa using h
  rw [hnl] at hwb
  go_enter Try.func65, Try.ntmps65
  go_upto_region 1 with fail
  rw [← hwb]
  clear hwb
  have hbd := hbw.drew
  have c0 := BB.cell 0
  have c1 := BB.cell 1
  have r0 := BR.cell 0
  have r1 := BR.cell 1
  have z0 := BR.free 0
  have z1 := BR.free 1
  have lt1 := BB.lt
  have lt2 := BR.lt
  have HBR := hide BR
  clear BB BR
  go_region_held3 (fun w' => w'.cell? ⟨w.heap.size, 0, none⟩ = some v1 ∧ w'.cell? ⟨w.heap.size, 1, none⟩ = some v2) (first | go_keep | exact ⟨d0, d1⟩ | exact ⟨f0, f1⟩)
    (first
      | (go_at_call 80; refine (cloneR_any _ t.routes _ (h1.up hbd) hn1).mono ?_; rintro e w1 ⟨x, rfl, hO1, hb1⟩; obtain ⟨Ax, capx, rfl, _, _⟩ := hO1.slr rc_len
         have hbw1 := hbd.trans (hb1.mono hbd.size)
         have d0 := (hb1.cell (World.block_lt_of_cell? wb.drew _ c0)).trans c0
         have d1 := (hb1.cell (World.block_lt_of_cell? wb.drew _ c1)).trans c1
         have BR1 := (show Blk wb.drew (w.heap.size + 1) 30 #[nl, nl] from HBR.out).up hb1)
      | (go_at_call 81; refine (cloneI_any _ t.hops _ (h2.up hbw1) hn2).mono ?_; rintro e w2 ⟨y, rfl, hO2, hb2⟩; obtain ⟨Ay, capy, rfl, _, _⟩ := hO2.slr ic_len
         have hbw2 := hbw1.trans (hb2.mono hbw1.size)
         have f0 := (hb2.cell (World.block_lt_of_cell? w1 _ d0)).trans d0
         have f1 := (hb2.cell (World.block_lt_of_cell? w1 _ d1)).trans d1
         have BR2 := BR1.up hb2
         have f2 := BR2.cell 0
         have f3 := BR2.cell 1
         have f4 := BR2.free 0
         have f5 := BR2.free 1))
  have hsep := (own_apart hO1 hO2 (Nat.le_refl _)).1
  have hO3 := hO1.below hb2
  have l1 := World.ownsRow.lt hO3
  have l2 := World.ownsRow.lt hO2
  have le1 := hb1.size
  have le2 := hbd.size
  have le0 : w.heap.size + 1 + 1 ≤ wb.heap.size := lt2
  have le3 : wb.heap.size ≤ wb.drew.heap.size := Nat.le_refl _
  go_wp2_with fail
  refine bodyPost_ret (v := .agg #[.slice Ax t.routes.length capx, .slice Ay t.hops.length capy]) (by simp [results, Try.results65, go_sem, f2, f3]) rfl ⟨_, rfl, ?_, ?_⟩
  · exact OwnT.low (ownT_mk (own_far (own_far hO3 (fun q hq => by have := (l1 q hq).1; show q ≠ w.heap.size + 1; omega) _) (fun q hq => by have := (l1 q hq).1; show q ≠ w.heap.size + 1; omega) _)
      (own_far (own_far (hO2.low le1) (fun q hq => by have := (l2 q hq).1; show q ≠ w.heap.size + 1; omega) _) (fun q hq => by have := (l2 q hq).1; show q ≠ w.heap.size + 1; omega) _) hsep) le2
  · exact (hbw2.setCell (Nat.le_succ _) _).setCell (Nat.le_succ _) _
end Go.Proofs.Ytlkchocjldllgaa
