/- Drawing a graph, a node and a link. Conditions: bytes. -/
import Derived.Test.YtbhkjeicogjfbaaDrawS
namespace Go.Proofs.Ytbhkjeicogjfbaa
open Go.RowKit

def DrawQPost (w : World) (e : Ending) (w' : World) : Prop :=
  ∃ (v : Value) (gr : Gr) (f k : Int), e = .returned (.tuple #[v, .int .i64 f, .int .i64 k]) ∧ OwnG w' w.heap.size v gr ∧ gr.ls.length ≤ 15 ∧ Below w.heap.size w w'
theorem OwnG.only {w w' : World} {base g : Nat} {v : Value} {gr : Gr} (h : OwnG w base v gr) (hg : w.grownBy w' (some g)) (hb : g < base) : OwnG w' base v gr := by
  obtain ⟨v2, rfl, h2⟩ := h
  exact ⟨v2, rfl, h2.only hg hb⟩
set_option maxRecDepth 100000 in
set_option maxHeartbeats 1600000 in
theorem drawUO_any (v : Value) (bs : List Int) (w : World) (hv : SlR bc 1 w w.heap.size v bs) (hm : bs.length ≤ 9223372036854775807 ∧ ∀ n ∈ bs, 0 ≤ n ∧ n ≤ 255) :
    Calls Try.prog 16 #[v] w (DrawQPost w) := by
  have hb0 := below1 w (Obj.cells #[.int .i64 0, .slice none 0 0] 25)
  have HB0 := hide (Blk.new w 25 #[.int .i64 0, .slice none 0 0])
  have hv0 := hv.up hb0
  go_enter Try.func16, Try.ntmps16
  go_wp2_with fail
  refine (open_any v bs _ hv0 hm).mono ?_
  rintro e w1 ⟨g, cs, rfl, hg0, R1, hb1⟩
  have HB1 := hide (HB0.out.up hb1)
  have hb01 := hb0.trans (hb1.mono hb0.size)
  have hgl := R1.lt
  have hgw : w.heap.size < g := by have := HB0.out.lt; omega
  clear HB0 hb0 hv0 hv hb1 hg0 hm
  go_wp2_with fail
  refine (drawSpoilt_any cs g 0 _ R1 (by omega)).mono ?_
  rintro e w2 ⟨v2, gr, p2, rfl, hO2, hl2, R2, hp2, hg2⟩
  obtain ⟨A, cap, rfl⟩ := hO2.lit
  have hbx := below1 w2 (Obj.cells #[.int .i64 gr.n, .slice A gr.ls.length cap] 25)
  have HT := hide (Blk.new w2 25 #[.int .i64 gr.n, .slice A gr.ls.length cap])
  have HB2 := hide ((HB1.out.grown hg2 (by intro e; injection e; omega)).up hbx)
  have HO := hide (hO2.below hbx)
  have hb02 := (hb01.grown hg2 hb01.size (fun q hq => by cases hq; omega)).trans (hbx.mono (Nat.le_trans hb01.size hg2.size))
  have HR := hide (R2.below hbx)
  obtain ⟨T, hT⟩ : ∃ T, T = w2.heap.size := ⟨_, rfl⟩
  obtain ⟨w3, hw3⟩ : ∃ w3, w3 = w2.alloc (Obj.cells #[.int .i64 gr.n, .slice A gr.ls.length cap] 25) := ⟨_, rfl⟩
  have hgT : g < T := by have := hg2.size; omega
  have hlw := hb01.size
  rw [← hw3, ← hT] at HT
  rw [← hw3] at HB2 HO hb02 HR
  clear HB1 hO2 R2 hg2 hbx R1
  go_upto_region 3 with fail
  rw [← hw3, ← hT]
  clear hw3 hT
  have c0 := HT.out.cell 0
  have c1 := HT.out.cell 1
  go_wp2_with fail
  refine (drawLink_any _ gr cs g p2 _ HR.out (by omega) HO.out.grr hl2).mono ?_
  rintro e w4 ⟨x, p4, rfl, R4, hp4, hg4⟩
  have HT4 := hide (HT.out.grown hg4 (by intro e; injection e; omega))
  have HB4 := hide (HB2.out.grown hg4 (by intro e; injection e; omega))
  have HO4 := hide (HO.out.only hg4 hgl)
  have hb04 := hb02.grown hg4 hb02.size (fun q hq => by cases hq; omega)
  have HR4 := hide R4
  clear HT HB2 HO hb02 HR R4 hg4 c0 c1
  have c0 := HT4.out.cell 0
  have c1 := HT4.out.cell 1
  have hTR : T ≠ w.heap.size := by omega
  have HT4d := hide (HT4.out.up ((Below.refl _ _).drew))
  have HB4d := hide (HB4.out.up ((Below.refl _ _).drew))
  have HO4d := hide (HO4.out.below ((Below.refl _ _).drew))
  go_upto_region 4 with fail
  go_region_held3 (fun X => X.cell? ⟨T, 0, none⟩ = some (.int .i64 gr.n) ∧ X.cell? ⟨T, 1, none⟩ = some (.slice A gr.ls.length cap)) (first | go_keep | exact ⟨HT5.out.cell 0, HT5.out.cell 1⟩ | exact ⟨((HT5.out.far (by exact hTR) _).far (by exact hTR) _).cell 0, ((HT5.out.far (by exact hTR) _).far (by exact hTR) _).cell 1⟩ | fail)
    (first
      | (go_at_call 53; refine (drawNode_any _ gr cs g p4 _ HR4.out.drew (by omega) ?_ hl2).mono ?_
         · exact HO4d.out.grr
         rintro e w5 ⟨y, p5, rfl, R5, hp5, hg5⟩
         have HT5 := hide (HT4d.out.grown hg5 (by intro e; injection e; omega))
         have HB5 := hide (HB4d.out.grown hg5 (by intro e; injection e; omega))
         have HO5 := hide (HO4d.out.only hg5 hgl)
         have hb05 := (hb04.drew).grown hg5 hb04.size (fun q hq => by cases hq; omega)
         have o0 := HB5.out.cell 0
         have o1 := HB5.out.cell 1
         have y0 := HB5.out.free 0
         have y1 := HB5.out.free 1)
      | fail)
  all_goals
    obtain ⟨z2, he, h2⟩ := HO5.out
    cases he
    go_wp2_with fail
    refine bodyPost_ret (v := .tuple #[.agg #[.int .i64 gr.n, .slice A gr.ls.length cap], .int .i64 x, .int .i64 y]) (by simp [results, Try.results16, go_sem, o0, o1]) rfl ⟨_, gr, _, _, rfl, ⟨_, rfl, (own_far' (own_far' h2 (own_blk_ne h2 HB5.out (by decide)) _) (own_blk_ne h2 HB5.out (by decide)) _).low (by omega)⟩, hl2, (hb05.setCell (Nat.le_refl _) _).setCell (Nat.le_refl _) _⟩
end Go.Proofs.Ytbhkjeicogjfbaa
