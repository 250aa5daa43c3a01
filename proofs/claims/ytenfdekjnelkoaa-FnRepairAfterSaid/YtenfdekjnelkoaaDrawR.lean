/- Drawing for RepairPath, RepairStack and Critical. Conditions: bytes. -/
import Derived.Test.YtenfdekjnelkoaaDrawQ
import Derived.Test.YtenfdekjnelkoaaOkS
namespace Go.Proofs.Ytenfdekjnelkoaa
open Go.RowKit

def DrawRPost (w : World) (e : Ending) (w' : World) : Prop :=
  ∃ (v : Value) (gr : Gr) (f k t : Int), e = .returned (.tuple #[v, .int .i64 f, .int .i64 k, .int .i64 t]) ∧ OwnG w' w.heap.size v gr ∧ gr.ls.length ≤ 15 ∧ Below w.heap.size w w'
/-- The state of a draw: the reader g, the box T of the graph gr, the result's box. -/
structure DP (w0 W : World) (T g base : Nat) (cs : List Int) (p : Nat) (A : Option Addr) (cap : Nat) (gr : Gr) : Prop where
  ht : Blk W T 25 #[.int .i64 gr.n, .slice A gr.ls.length cap]
  hb : Blk W w0.heap.size 25 #[.int .i64 0, .slice none 0 0]
  ho : OwnG W base (.agg #[.int .i64 gr.n, .slice A gr.ls.length cap]) gr
  bw : Below w0.heap.size w0 W
  rd : Rd W g cs p
  gl : g < base
  wg : w0.heap.size < g
  gT : g < T
section
variable {w0 W W' : World} {T g base : Nat} {cs : List Int} {p p' : Nat} {A : Option Addr} {cap : Nat} {gr : Gr}
theorem DP.below (h : DP w0 W T g base cs p A cap gr) (hb : Below W.heap.size W W') : DP w0 W' T g base cs p A cap gr :=
  ⟨h.ht.up hb, h.hb.up hb, h.ho.below hb, h.bw.trans (hb.mono h.bw.size), h.rd.below hb, h.gl, h.wg, h.gT⟩
theorem DP.grow (h : DP w0 W T g base cs p A cap gr) (hg : W.grownBy W' (some g)) (R : Rd W' g cs p') : DP w0 W' T g base cs p' A cap gr :=
  ⟨h.ht.grown hg (by intro e; injection e; have := h.gT; omega), h.hb.grown hg (by intro e; injection e; have := h.wg; omega), h.ho.only hg h.gl, h.bw.grown hg h.bw.size (fun q hq => by cases hq; have := h.wg; omega), R, h.gl, h.wg, h.gT⟩
end
set_option maxRecDepth 100000 in
set_option maxHeartbeats 1600000 in
theorem drawRP_any (v : Value) (bs : List Int) (w : World) (hv : SlR bc 1 w w.heap.size v bs) (hm : bs.length ≤ 9223372036854775807 ∧ ∀ n ∈ bs, 0 ≤ n ∧ n ≤ 255) :
    Calls Try.prog 31 #[v] w (DrawRPost w) := by
  have hb0 := below1 w (Obj.cells #[.int .i64 0, .slice none 0 0] 25)
  have HB0 := hide (Blk.new w 25 #[.int .i64 0, .slice none 0 0])
  have hv0 := hv.up hb0
  go_enter Try.func31, Try.ntmps31
  go_wp2_with fail
  refine (open_any v bs _ hv0 hm).mono ?_
  rintro e w1 ⟨g, cs, rfl, hg0, R1, hb1⟩
  have HB1 := hide (HB0.out.up hb1)
  have hb01 := hb0.trans (hb1.mono hb0.size)
  have hgl := R1.lt
  have hgw : w.heap.size < g := by have := HB0.out.lt; omega
  clear HB0 hb0 hv0 hv hb1 hg0 hm
  go_wp2_with fail
  refine (drawSpoilt_any cs g 0 _ R1 (by omega)).mono ?_
  rintro e w2 ⟨v2, gr, p2, rfl, hO2, hl2, R2, hp2, hg2⟩
  obtain ⟨A, cap, rfl⟩ := hO2.lit
  have hbx := below1 w2 (Obj.cells #[.int .i64 gr.n, .slice A gr.ls.length cap] 25)
  have hgT : g < w2.heap.size := by have := hg2.size; omega
  have hD3 : DP w (w2.alloc (Obj.cells #[.int .i64 gr.n, .slice A gr.ls.length cap] 25)) w2.heap.size g w1.heap.size cs p2 A cap gr :=
    ⟨Blk.new _ _ _, (HB1.out.grown hg2 (by intro e; injection e; omega)).up hbx, hO2.below hbx, (hb01.grown hg2 hb01.size (fun q hq => by cases hq; omega)).trans (hbx.mono (Nat.le_trans hb01.size hg2.size)), R2.below hbx, hgl, hgw, hgT⟩
  obtain ⟨T, hT⟩ : ∃ T, T = w2.heap.size := ⟨_, rfl⟩
  obtain ⟨w3, hw3⟩ : ∃ w3, w3 = w2.alloc (Obj.cells #[.int .i64 gr.n, .slice A gr.ls.length cap] 25) := ⟨_, rfl⟩
  rw [← hw3, ← hT] at hD3
  have H3 := hide hD3
  clear HB1 hO2 R2 hg2 hbx R1 hD3
  go_upto_region 3 with fail
  rw [← hw3, ← hT]
  clear hw3 hT
  have c0 := H3.out.ht.cell 0
  have c1 := H3.out.ht.cell 1
  go_wp2_with fail
  refine (drawNode_any _ gr cs g p2 _ H3.out.rd (by omega) H3.out.ho.grr hl2).mono ?_
  rintro e w4 ⟨a, p4, rfl, R4, hp4, hg4⟩
  have H4 := hide (H3.out.grow hg4 R4)
  clear H3 c0 c1 R4 hg4
  have c0 := H4.out.ht.cell 0
  have c1 := H4.out.ht.cell 1
  go_wp2_with fail
  refine (drawLink_any _ gr cs g p4 _ H4.out.rd (by omega) H4.out.ho.grr hl2).mono ?_
  rintro e w5 ⟨x, p5, rfl, R5, hp5, hg5⟩
  have H5 := hide (H4.out.grow hg5 R5)
  clear H4 c0 c1 R5 hg5
  have c0 := H5.out.ht.cell 0
  have c1 := H5.out.ht.cell 1
  go_wp2_with fail
  refine (drawNode_any _ gr cs g p5 _ H5.out.rd (by omega) H5.out.ho.grr hl2).mono ?_
  rintro e w6 ⟨b, p6, rfl, R6, hp6, hg6⟩
  have H6 := hide (H5.out.grow hg6 R6)
  clear H5 c0 c1 R6 hg6
  go_upto_region 7 with fail
  go_loopg [8, 10, 11] (6) (fun gg av bv iv wr => ∃ (i : Nat) (a b : Int) (p : Nat), i + gg = 6 ∧ av = .int .i64 a ∧ bv = .int .i64 b ∧ iv = .int .i64 i ∧ p ≤ 100000 + 2 * i ∧ Hid (DP w wr T g w1.heap.size cs p A cap gr))
  case atStart => exact ⟨0, a, b, p6, by omega, rfl, rfl, rfl, by omega, H6⟩
  case round =>
    clear H6 hp2 hp4 hp5 hp6
    obtain ⟨i, a, b, p, hi, rfl, rfl, rfl, hp, H⟩ := hrel
    by_cases hlt : i < 6
    · have c0 := H.out.ht.cell 0
      have c1 := H.out.ht.cell 1
      go_wp2_with fail
      refine (l2Two_any _ gr a b _ H.out.ho.grr (by omega)).mono ?_
      rintro e w7 ⟨rfl, hb7⟩
      have H7 := hide (H.out.below hb7)
      clear H hb7 c0 c1
      have c0 := H7.out.ht.cell 0
      have c1 := H7.out.ht.cell 1
      by_cases hA : GV gr ∧ Nd gr a ∧ Nd gr b
      · rw [tb_yes hA]
        have HA := hide hA
        clear hA
        go_wp2_with fail
        refine (l1Index_any _ gr x _ H7.out.ho.grr (by omega)).mono ?_
        rintro e w8 ⟨rfl, hb8⟩
        have H8 := hide (H7.out.below hb8)
        clear H7 hb8 c0 c1
        have c0 := H8.out.ht.cell 0
        have c1 := H8.out.ht.cell 1
        by_cases hX : GV gr ∧ Ix gr x
        · rw [tb_yes hX]
          have HX := hide hX
          clear hX
          go_wp2_with fail
          refine (l2Used_k _ gr a b x _ H8.out.ho.grr HA.out.1 HA.out.2.1 HA.out.2.2 HX.out.2).mono ?_
          rintro e w9 ⟨rfl, hb9⟩
          have H9 := hide (H8.out.below hb9)
          clear H8 hb9 c0 c1
          by_cases hU : Us gr (lkOf gr x) a b
          · rw [tb_yes hU]
            clear hU
            have c0 := H9.out.ht.cell 0
            have c1 := H9.out.ht.cell 1
            have o0 := H9.out.hb.cell 0
            have o1 := H9.out.hb.cell 1
            have y0 := H9.out.hb.free 0
            have y1 := H9.out.hb.free 1
            go_wp2_with fail
            obtain ⟨z2, he, h2⟩ := H9.out.ho
            cases he
            have hbs := H9.out.bw.size
            refine bodyPost_ret (v := .tuple #[.agg #[.int .i64 gr.n, .slice A gr.ls.length cap], .int .i64 a, .int .i64 x, .int .i64 b]) (by simp [results, Try.results31, go_sem, o0, o1]) rfl ⟨_, gr, _, _, _, rfl, ⟨_, rfl, (own_far' (own_far' h2 (own_blk_ne h2 H9.out.hb (by decide)) _) (own_blk_ne h2 H9.out.hb (by decide)) _).low (by have := H9.out.gl; have := H9.out.wg; omega)⟩, hl2, (H9.out.bw.setCell (Nat.le_refl _) _).setCell (Nat.le_refl _) _⟩
          · rw [tb_no hU]
            clear hU
            have c0 := H9.out.ht.cell 0
            have c1 := H9.out.ht.cell 1
            go_wp2_with fail
            refine (pick_any cs g p _ _ H9.out.rd (by omega)).mono ?_
            rintro e w10 ⟨r1, rfl, hr1, R10, hg10⟩
            have H10 := hide (H9.out.grow hg10 R10)
            clear H9 c0 c1 R10 hg10 hr1
            have c0 := H10.out.ht.cell 0
            have c1 := H10.out.ht.cell 1
            go_wp2_with fail
            refine (pick_any cs g (p + 1) _ _ H10.out.rd (by omega)).mono ?_
            rintro e w11 ⟨r2, rfl, hr2, R11, hg11⟩
            have H11 := hide (H10.out.grow hg11 R11)
            clear H10 c0 c1 R11 hg11 hr2
            go_wp2
            go_roundg (gk - 1)
            case measure => omega
            case rel => exact ⟨i + 1, r1, r2, _, by omega, rfl, rfl, by go_num, by omega, H11⟩
        · rw [tb_no hX]
          clear hX
          have c0 := H8.out.ht.cell 0
          have c1 := H8.out.ht.cell 1
          have o0 := H8.out.hb.cell 0
          have o1 := H8.out.hb.cell 1
          have y0 := H8.out.hb.free 0
          have y1 := H8.out.hb.free 1
          go_wp2_with fail
          obtain ⟨z2, he, h2⟩ := H8.out.ho
          cases he
          have hbs := H8.out.bw.size
          refine bodyPost_ret (v := .tuple #[.agg #[.int .i64 gr.n, .slice A gr.ls.length cap], .int .i64 a, .int .i64 x, .int .i64 b]) (by simp [results, Try.results31, go_sem, o0, o1]) rfl ⟨_, gr, _, _, _, rfl, ⟨_, rfl, (own_far' (own_far' h2 (own_blk_ne h2 H8.out.hb (by decide)) _) (own_blk_ne h2 H8.out.hb (by decide)) _).low (by have := H8.out.gl; have := H8.out.wg; omega)⟩, hl2, (H8.out.bw.setCell (Nat.le_refl _) _).setCell (Nat.le_refl _) _⟩
      · rw [tb_no hA]
        clear hA
        have c0 := H7.out.ht.cell 0
        have c1 := H7.out.ht.cell 1
        have o0 := H7.out.hb.cell 0
        have o1 := H7.out.hb.cell 1
        have y0 := H7.out.hb.free 0
        have y1 := H7.out.hb.free 1
        go_wp2_with fail
        obtain ⟨z2, he, h2⟩ := H7.out.ho
        cases he
        have hbs := H7.out.bw.size
        refine bodyPost_ret (v := .tuple #[.agg #[.int .i64 gr.n, .slice A gr.ls.length cap], .int .i64 a, .int .i64 x, .int .i64 b]) (by simp [results, Try.results31, go_sem, o0, o1]) rfl ⟨_, gr, _, _, _, rfl, ⟨_, rfl, (own_far' (own_far' h2 (own_blk_ne h2 H7.out.hb (by decide)) _) (own_blk_ne h2 H7.out.hb (by decide)) _).low (by have := H7.out.gl; have := H7.out.wg; omega)⟩, hl2, (H7.out.bw.setCell (Nat.le_refl _) _).setCell (Nat.le_refl _) _⟩
    · skip
      have c0 := H.out.ht.cell 0
      have c1 := H.out.ht.cell 1
      have o0 := H.out.hb.cell 0
      have o1 := H.out.hb.cell 1
      have y0 := H.out.hb.free 0
      have y1 := H.out.hb.free 1
      go_wp2_with fail
      obtain ⟨z2, he, h2⟩ := H.out.ho
      cases he
      have hbs := H.out.bw.size
      refine bodyPost_ret (v := .tuple #[.agg #[.int .i64 gr.n, .slice A gr.ls.length cap], .int .i64 a, .int .i64 x, .int .i64 b]) (by simp [results, Try.results31, go_sem, o0, o1]) rfl ⟨_, gr, _, _, _, rfl, ⟨_, rfl, (own_far' (own_far' h2 (own_blk_ne h2 H.out.hb (by decide)) _) (own_blk_ne h2 H.out.hb (by decide)) _).low (by have := H.out.gl; have := H.out.wg; omega)⟩, hl2, (H.out.bw.setCell (Nat.le_refl _) _).setCell (Nat.le_refl _) _⟩
set_option maxHeartbeats 800000 in
theorem drawRS4_any (v : Value) (bs : List Int) (w : World) (hv : SlR bc 1 w w.heap.size v bs) (hm : bs.length ≤ 9223372036854775807 ∧ ∀ n ∈ bs, 0 ≤ n ∧ n ≤ 255) :
    Calls Try.prog 35 #[v] w (DrawRPost w) := by
  have hb0 := below1 w (Obj.cells #[.int .i64 0, .slice none 0 0] 25)
  have HB0 := hide (Blk.new w 25 #[.int .i64 0, .slice none 0 0])
  have hv0 := hv.up hb0
  go_enter Try.func35, Try.ntmps35
  go_wp2_with fail
  refine (drawRP_any v bs _ hv0 hm).mono ?_
  rintro e w1 ⟨v1, gr, f, k, t, rfl, hO1, hl1, hb1⟩
  obtain ⟨A, cap, rfl⟩ := hO1.lit
  obtain ⟨x2, he, h2⟩ := hO1
  cases he
  have HB1 := hide (HB0.out.up hb1)
  have hb01 := hb0.trans (hb1.mono hb0.size)
  have hs0 := hb0.size
  have HO := hide (h2.low hs0)
  have o0 := HB1.out.cell 0
  have o1 := HB1.out.cell 1
  have y0 := HB1.out.free 0
  have y1 := HB1.out.free 1
  clear h2 HB0 hb0 hv0 hv hb1 hs0 hm
  go_wp2_with fail
  refine bodyPost_ret (v := .tuple #[.agg #[.int .i64 gr.n, .slice A gr.ls.length cap], .int .i64 f, .int .i64 k, .int .i64 t]) (by simp [results, Try.results35, go_sem, o0, o1]) rfl ⟨_, gr, _, _, _, rfl, ⟨_, rfl, own_far' (own_far' HO.out (own_blk_ne HO.out HB1.out (by decide)) _) (own_blk_ne HO.out HB1.out (by decide)) _⟩, hl1, (hb01.setCell (Nat.le_refl _) _).setCell (Nat.le_refl _) _⟩
end Go.Proofs.Ytenfdekjnelkoaa
