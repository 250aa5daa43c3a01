/- Drawing a graph. Conditions: the reader's place is at most 1000000. -/
import Derived.Test.YtbhkjeicogjfbaaPick
import Derived.Test.YtbhkjeicogjfbaaGraphE
import Derived.Test.YtbhkjeicogjfbaaApp
import Derived.Deep.RegionLaw
namespace Go.Proofs.Ytbhkjeicogjfbaa
open Go.RowKit

theorem infLk : SlInf Try.prog 23 64 lc 3 := by
  obtain ⟨i0, hi, hz0, hz1, hz2⟩ := info_parts Try.infoL
  exact ⟨Try.underlying23, ⟨i0, _, hi, hz0, hz1, by rw [hz2]; decide, rfl⟩, by decide, lc_len, lc_one⟩
theorem Rd.drew {w : World} {g p : Nat} {bs : List Int} (h : Rd w g bs p) : Rd w.drew g bs p := h
/-- The state of the drawing. -/
structure DG (w0 : World) (g T : Nat) (bs : List Int) (pm : Nat) (n : Int) (W : World) (p : Nat) (v2 : Value) (ls : List Lk) : Prop where
  rd : Rd W g bs p
  pm : p ≤ pm
  bt : Blk W T 25 #[.int .i64 n, v2]
  bo : Blk W w0.heap.size 25 #[.int .i64 0, .slice none 0 0]
  o : Own lc 64 3 W w0.heap.size v2 ls
  l : ls.length ≤ 14
  fr : w0.grownBy W (some g)
def DGe (w0 : World) (g T : Nat) (bs : List Int) (pm : Nat) (n : Int) (W : World) : Prop := ∃ p v2 ls, DG w0 g T bs pm n W p v2 ls
section
variable {w0 W W' : World} {g T pm p : Nat} {n : Int} {bs : List Int} {v2 : Value} {ls : List Lk}
theorem DG.pick (h : DG w0 g T bs pm n W p v2 ls) (hg : W.grownBy W' (some g)) (hr : Rd W' g bs (p + 1)) (hgl : g < w0.heap.size) (hT : g < T) : DG w0 g T bs (pm + 1) n W' (p + 1) v2 ls :=
  ⟨hr, by have := h.pm; omega, h.bt.grown hg (by intro e; injection e; omega), h.bo.grown hg (by intro e; injection e; omega), h.o.only hg hgl, h.l, only_trans h.fr hg⟩
theorem DG.drew (h : DG w0 g T bs pm n W p v2 ls) : DG w0 g T bs pm n W.drew p v2 ls := ⟨h.rd, h.pm, h.bt, h.bo, h.o, h.l, ⟨h.fr.os, h.fr.tape, h.fr.output, h.fr.size, h.fr.block⟩⟩
theorem DG.below (h : DG w0 g T bs pm n W p v2 ls) (hb : Below W.heap.size W W') : DG w0 g T bs pm n W' p v2 ls :=
  ⟨h.rd.below hb, h.pm, h.bt.up hb, h.bo.up hb, h.o.below hb, h.l, only_below h.fr hb⟩
theorem DG.more {pm' : Nat} (h : DG w0 g T bs pm n W p v2 ls) (hp : pm ≤ pm') : DG w0 g T bs pm' n W p v2 ls := ⟨h.rd, Nat.le_trans h.pm hp, h.bt, h.bo, h.o, h.l, h.fr⟩
theorem DGe.more {pm' : Nat} (h : DGe w0 g T bs pm n W) (hp : pm ≤ pm') : DGe w0 g T bs pm' n W := by
  obtain ⟨p, v2, ls, h⟩ := h
  exact ⟨p, v2, ls, h.more hp⟩
theorem DG.app {v3 : Value} {ls' : List Lk} (h : DG w0 g T bs pm n W p v2 ls) (hg : W.grownBy W' v2.ownBlock) (ho : Own lc 64 3 W' w0.heap.size v3 ls') (hl : ls'.length ≤ 14) (hgl : g < w0.heap.size) (hwT : w0.heap.size < T) :
    DG w0 g T bs pm n (W'.setCell ⟨T, 1, none⟩ v3) p v3 ls' ∧ Blk W' T 25 #[.int .i64 n, v2] := by
  have hlo : ∀ k, v2.ownBlock = some k → w0.heap.size ≤ k := fun k hk => (World.ownsRow.lt h.o k hk).1
  have bt := h.bt.grown hg (Ne.symm (own_blk_ne h.o h.bt (by decide)))
  have bo := h.bo.grown hg (Ne.symm (own_blk_ne h.o h.bo (by decide)))
  have n1 := own_blk_ne ho bt (by decide)
  exact ⟨⟨(h.rd.own hg hlo hgl).far (by simp; omega) _, h.pm, bt.put 1 _, bo.far (by simp; omega) _, own_far' ho n1 _, hl,
    only_setCell (only_own h.fr hg hlo) (.inr (by simp; omega)) _⟩, bt⟩
theorem DG.setN {n' : Int} (h : DG w0 g T bs pm n W p v2 ls) (hgl : g < w0.heap.size) (hwT : w0.heap.size < T) : DG w0 g T bs pm n' (W.setCell ⟨T, 0, none⟩ (.int .i64 n')) p v2 ls :=
  ⟨h.rd.far (by simp; omega) _, h.pm, h.bt.put 0 _, h.bo.far (by simp; omega) _, own_far' h.o (own_blk_ne h.o h.bt (by decide)) _, h.l, only_setCell h.fr (.inr (by simp; omega)) _⟩
end
def DrawGPost (bs : List Int) (g p m k : Nat) (w : World) (e : Ending) (w' : World) : Prop :=
  ∃ (v : Value) (gr : Gr) (p' : Nat), e = .returned v ∧ OwnG w' w.heap.size v gr ∧ gr.ls.length ≤ m ∧ Rd w' g bs p' ∧ p' ≤ p + k ∧ w.grownBy w' (some g)
/-- What the two loops draw. -/
def LoopPost (w0 : World) (g T : Nat) (bs : List Int) (pm N : Nat) (W : World) : Prop := Hid (DGe w0 g T bs pm (N : Int) W)
set_option maxRecDepth 100000 in
set_option maxHeartbeats 3200000 in
theorem drawGraph_any (bs : List Int) (g p : Nat) (w : World) (hR : Rd w g bs p) (hp : p ≤ 1000000) :
    Calls Try.prog 90 #[.pointer (some ⟨g, 0, none⟩)] w (DrawGPost bs g p 14 1000 w) := by
  have hgl := hR.lt
  have hb0 := below1 w (Obj.cells #[.int .i64 0, .slice none 0 0] 25)
  have hR0 := hR.below hb0
  have HB0 := hide (Blk.new w 25 #[.int .i64 0, .slice none 0 0])
  go_enter Try.func90, Try.ntmps90
  go_wp2_with fail
  refine (pick_any bs g p _ _ hR0 (by omega)).mono ?_
  rintro e w1 ⟨r1, rfl, ⟨h10, h11⟩, R1, hg1⟩
  have h12 := h11 (by omega)
  obtain ⟨m, rfl⟩ := Int.eq_ofNat_of_zero_le h10
  have hm : m ≤ 6 := by omega
  obtain ⟨N, hN⟩ : ∃ N : Nat, N = 2 + m := ⟨_, rfl⟩
  have hwr : IntKind.i64.wrap (2 + (m : Int)) = (N : Int) := by rw [IntKind.wrap_i64]; omega
  have hNN : (2 : Int) + (m : Int) = (N : Int) := by omega
  have HB1 := hide (HB0.out.grown hg1 (by intro e; injection e with e; omega))
  have hw1 : w.heap.size < w1.heap.size := by have := HB1.out.lt; omega
  have hN8 : N ≤ 8 := by omega
  have hN2 : 2 ≤ N := by omega
  have HD1 : Hid (DG w g (w1.heap.size + 1) bs (p + 1) (N : Int) ((w1.alloc (Obj.cells #[] 64)).alloc (Obj.cells #[.int .i64 (N : Int), .slice (some ⟨w1.heap.size, 0, none⟩) 0 0] 25)) (p + 1) (.slice (some ⟨w1.heap.size, 0, none⟩) 0 0) []) := hide (by
    refine ⟨(R1.alloc _).alloc _, Nat.le_refl _, ?_, (HB1.out.alloc _).alloc _, ?_, by simp, only_below (only_trans (only_below (only_refl _ _) hb0) hg1) (below2 w1 _ _)⟩
    · have h := Blk.new (w1.alloc (Obj.cells #[] 64)) 25 #[.int .i64 (N : Int), .slice (some ⟨w1.heap.size, 0, none⟩) 0 0]
      simpa using h
    · exact (ownE w1 _ (by omega)).below (below1 _ _))
  obtain ⟨T, hT⟩ : ∃ T, T = w1.heap.size + 1 := ⟨_, rfl⟩
  have hgT : g < T := by omega
  have hwT : w.heap.size < T := by omega
  rw [← hT] at HD1
  clear hN hm h12 h11 h10 HB0 HB1 R1 hg1 hb0 hR0 hR
  go_upto_region 2 with fail
  rw [← hT]
  clear hT hNN hwr hw1
  obtain ⟨wb, hwb⟩ : ∃ wb, wb = (w1.alloc (Obj.cells #[] 64)).alloc (Obj.cells #[.int .i64 (N : Int), .slice (some ⟨w1.heap.size, 0, none⟩) 0 0] 25) := ⟨_, rfl⟩
  rw [← hwb] at HD1
  rw [← hwb]
  clear hwb
  go_wp2_with fail
  refine (pick_any bs g (p + 1) _ _ HD1.out.rd (by omega)).mono ?_
  rintro e w2 ⟨r2, rfl, ⟨h20, h21⟩, R2, hg2⟩
  have HDx := hide (HD1.out.pick hg2 R2 hgl hgT)
  clear HD1 hg2 R2 h21
  by_cases h2 : 0 < r2
  · go_wp2_with fail
    refine (pick_any bs g (p + 1 + 1) _ _ HDx.out.rd (by omega)).mono ?_
    rintro e w3 ⟨r3, rfl, ⟨h30, h31⟩, R3, hg3⟩
    have h32 := h31 (by omega)
    obtain ⟨m3, rfl⟩ := Int.eq_ofNat_of_zero_le h30
    obtain ⟨M, hM⟩ : ∃ M : Nat, M = 4 + m3 := ⟨_, rfl⟩
    have hwr : IntKind.i64.wrap (4 + (m3 : Int)) = (M : Int) := by rw [IntKind.wrap_i64]; omega
    have hMM : (4 : Int) + (m3 : Int) = (M : Int) := by omega
    have HDy := hide (HDx.out.pick hg3 R3 hgl hgT)
    have c0 := HDy.out.bt.cell 0
    have z0 := HDy.out.bt.free 0
    have hM8 : M ≤ 8 := by omega
    have hM2 : 2 ≤ M := by omega
    clear h31 h30 HDx hg3 R3 hM
    go_upto_region 4 with fail

    try rw [hMM]
    obtain ⟨wz, hwz⟩ : ∃ wz, wz = w3.setCell ⟨T, 0, none⟩ (.int .i64 (M : Int)) := ⟨_, rfl⟩
    have HD2 : Hid (DG w g T bs (p + 1 + 1 + 1) (M : Int) wz (p + 1 + 1 + 1) (.slice (some ⟨w1.heap.size, 0, none⟩) 0 0) []) := hide (by rw [hwz]; exact HDy.out.setN hgl hwT)
    rw [← hwz]
    clear hwz c0 z0 HDy hMM hwr h32 hN8 hN2
    go_upto_region 4 with fail
    go_wp2_with fail
    refine (pick_any bs g _ _ _ HD2.out.rd (by have := HD2.out.pm; omega)).mono ?_
    rintro e w4 ⟨r4, rfl, ⟨h40, h41⟩, R4, hg4⟩
    have h42 := h41 (by omega)
    have HD4 : Hid (DGe w g T bs (p + 4 + 100 * 0) (M : Int) w4) := hide (DGe.more ⟨_, _, _, HD2.out.pick hg4 R4 hgl hgT⟩ (by omega))
    clear HD2 hg4 R4 h41
    go_wp2
    go_loopg [5] (M) (fun gg iv wr => ∃ a : Nat, a + gg = M ∧ iv = .int .i64 a ∧ Hid (DGe w g T bs (p + 4 + 100 * a) (M : Int) wr))
    case atStart => exact ⟨0, by omega, rfl, HD4⟩
    case round =>
      obtain ⟨a, ha, rfl, HD⟩ := hrel
      obtain ⟨q, v2, ls, hD⟩ := HD.out
      clear HD4
      have c0 := hD.bt.cell 0
      by_cases hlt : a < M
      · clear hD
        obtain ⟨wo, hwo⟩ : ∃ wo, wo = wr := ⟨_, rfl⟩
        subst hwo
        obtain ⟨gko, hgko⟩ : ∃ z, z = gk := ⟨_, rfl⟩
        subst hgko
        go_wp2
        clear c0
        go_loopg [6] (M - (a + 1)) (fun gg iv wr => ∃ b : Nat, b + gg = M ∧ a + 1 ≤ b ∧ iv = .int .i64 b ∧ Hid (DGe w g T bs (p + 4 + 100 * a + 10 * b) (M : Int) wr))
        case atStart => exact ⟨a + 1, by omega, by omega, by go_num, hide (HD.out.more (by omega))⟩
        case round =>
          obtain ⟨b, hb, hab, rfl, HE⟩ := hrel
          obtain ⟨q1, x2, ls1, hD⟩ := HE.out
          clear HD
          have c0 := hD.bt.cell 0
          by_cases hlt2 : b < M
          · obtain ⟨A1, k1, rfl, _, _⟩ := hD.o.lit
            have c1 := hD.bt.cell 1
            have hq1 := hD.pm
            have hl14 := hD.l
            have HD1 := hide hD
            clear hD HE
            go_upto_region 11 with fail
            go_cut [7] (fun s wx => ∃ bb : Bool, s = .bool bb ∧ wx = wr)
            case first =>
              by_cases e1 : b = a + 1
              · have p1 : ((b : Int) == (a : Int) + 1) = true := by simp [e1]
                clear e1
                go_wp2_with fail
                go_meet
                exact ⟨_, rfl, rfl⟩
              · have p1 : ((b : Int) == (a : Int) + 1) = false := by rw [beq_eq_false_iff_ne]; omega
                clear e1
                by_cases e2 : a = 0
                · have p2 : ((a : Int) == 0) = true := by simp [e2]
                  clear e2
                  go_wp2_with fail
                  go_meet
                  exact ⟨_, rfl, rfl⟩
                · have p2 : ((a : Int) == 0) = false := by rw [beq_eq_false_iff_ne]; omega
                  clear e2
                  go_wp2_with fail
                  go_meet
                  exact ⟨_, rfl, rfl⟩
            case rest =>
              obtain ⟨near, rfl, hwc⟩ := hcut
              subst hwc
              obtain ⟨wn, hwn⟩ : ∃ wn, wn = wc := ⟨_, rfl⟩
              subst hwn
              go_upto_region 12 with fail
              go_cut [69] (fun s wx => ∃ bb : Bool, ∃ q2, s = .bool bb ∧ (bb = true → ls1.length < 14) ∧ Hid (DG w g T bs (p + 4 + 100 * a + 10 * b + 2) (M : Int) wx q2 (.slice A1 ls1.length k1) ls1))
              case first =>
                by_cases hL : ls1.length < 14
                · cases near with
                  | true =>
                    go_wp2_with fail
                    refine (pick_any bs g _ _ _ HD1.out.rd (by omega)).mono ?_
                    rintro e w5 ⟨r5, rfl, ⟨h50, h51⟩, R5, hg5⟩
                    have HD5 := hide (HD1.out.pick hg5 R5 hgl hgT)
                    clear HD1 hg5 R5 h51 c0 c1
                    by_cases h5 : 0 < r5
                    · go_wp2_with fail
                      go_meet
                      exact ⟨_, _, rfl, fun _ => hL, hide (HD5.out.more (by omega))⟩
                    · go_wp2_with fail
                      refine (pick_any bs g _ _ _ HD5.out.rd (by omega)).mono ?_
                      rintro e w6 ⟨r6, rfl, ⟨h60, h61⟩, R6, hg6⟩
                      have HD6 := hide (HD5.out.pick hg6 R6 hgl hgT)
                      clear HD5 hg6 R6 h61
                      go_wp2_with fail
                      go_meet
                      exact ⟨_, _, rfl, fun _ => hL, HD6⟩
                  | false =>
                    go_wp2_with fail
                    refine (pick_any bs g _ _ _ HD1.out.rd (by omega)).mono ?_
                    rintro e w6 ⟨r6, rfl, ⟨h60, h61⟩, R6, hg6⟩
                    have HD6 := hide (HD1.out.pick hg6 R6 hgl hgT)
                    clear HD1 hg6 R6 h61 c0 c1
                    go_wp2_with fail
                    go_meet
                    exact ⟨_, _, rfl, fun _ => hL, hide (HD6.out.more (by omega))⟩
                · go_wp2_with fail
                  go_meet
                  exact ⟨_, _, rfl, fun h => (by cases h), hide (HD1.out.more (by omega))⟩
              case rest =>
                obtain ⟨bb, q2, rfl, hbb, HD2⟩ := hcut
                obtain ⟨wq, hwq⟩ : ∃ wq, wq = wc := ⟨_, rfl⟩
                subst hwq
                clear HD1 c0 c1
                have hq2 := HD2.out.pm
                cases bb with
                | false =>
                  have HDN : Hid (DGe w g T bs (p + 4 + 100 * a + 10 * (b + 1)) (M : Int) wq) := hide (DGe.more ⟨_, _, _, HD2.out⟩ (by omega))
                  clear HD2
                  go_wp2
                  go_roundg (gk - 1)
                  case measure => omega
                  case rel => exact ⟨b + 1, by omega, by omega, by go_num, HDN⟩
                | true =>
                  have hL := hbb rfl
                  clear hbb
                  have c1 := HD2.out.bt.cell 1
                  go_upto_region 13 with fail
                  go_region_law (first
                    | (go_simp; go_at_call 91; refine (pick_any bs g q2 _ _ ?_ ?_).mono ?_
                       · exact HD2.out.rd.drew
                       · omega
                       rintro e w3 ⟨r3, rfl, ⟨h30, h31⟩, R3, hg3⟩
                       have h32 := h31 (by omega)
                       have D3 := HD2.out.drew.pick hg3 R3 hgl hgT
                       have c13 := D3.bt.cell 1)
                    | (go_simp; go_at_call 91; refine (pick_any bs g (q2 + 1) _ _ ?_ ?_).mono ?_
                       · exact D3.rd
                       · omega
                       rintro e w4 ⟨r4', rfl, ⟨h40', h41'⟩, R4', hg4'⟩
                       have h42' := h41' (by omega)
                       have D4 := D3.pick hg4' R4' hgl hgT
                       have c14 := D4.bt.cell 1)
                    | (go_simp; go_at_call 91; refine (pick_any bs g (q2 + 1 + 1) _ _ ?_ ?_).mono ?_
                       · exact D4.rd
                       · omega
                       rintro e w5 ⟨r5, rfl, ⟨h50, h51⟩, R5, hg5⟩
                       have h52 := h51 (by omega)
                       have D5 := D4.pick hg5 R5 hgl hgT
                       have c15 := D5.bt.cell 1
                       have c16 := fun o => (D5.below (below1 w5 o)).bt.cell 1)
                    | (refine step_app (by rfl) infLk (.tmp 71) (.tmp 85) (by rfl) _ _ (by rfl) (by rfl) w.heap.size (w5.heap.size + 1) ls1 [⟨(a : Int), (b : Int), IntKind.i64.wrap (IntKind.i64.wrap (1 + r3) + IntKind.i64.wrap (IntKind.i64.wrap (r4'.tdiv 3) * r5))⟩] ?_ ?_ ?_ ?_ ?_
                       · exact D5.o.below (below1 _ _)
                       · exact slr_one (Blk.new w5 64 #[.int .i64 (a : Int), .int .i64 (b : Int), .int .i64 (IntKind.i64.wrap (IntKind.i64.wrap (1 + r3) + IntKind.i64.wrap (IntKind.i64.wrap (r4'.tdiv 3) * r5)))]) rfl (by omega)
                       · simp; omega
                       · have := D5.fr.size; simp; omega
                       intro A3 c3 w6 hO6 hg6 hat6
                       obtain ⟨D6, B6⟩ := (D5.below (below1 w5 (Obj.cells #[.int .i64 (a : Int), .int .i64 (b : Int), .int .i64 (IntKind.i64.wrap (IntKind.i64.wrap (1 + r3) + IntKind.i64.wrap (IntKind.i64.wrap (r4'.tdiv 3) * r5)))] 64))).app hg6 hO6 (by simp; omega) hgl hwT
                       have c17 := B6.cell 1
                       have z17 := B6.free 1)
                    | fail)
                  all_goals
                    have HDN : Hid (DGe w g T bs (p + 4 + 100 * a + 10 * (b + 1)) (M : Int) _) := hide (DGe.more ⟨_, _, _, D6⟩ (by omega))
                    clear D3 D4 D5 D6 B6 c13 c14 c15 c16 c17 z17 hO6 hg6 hat6 R3 hg3 R4' hg4' R5 hg5 c1 HD2
                    go_wp2
                    go_roundg (gk - 1)
                    case measure => omega
                    case rel => exact ⟨b + 1, by omega, by omega, by go_num, HDN⟩
          · have HDN : Hid (DGe w g T bs (p + 4 + 100 * (a + 1)) (M : Int) wr) := hide (HE.out.more (by omega))
            clear hD HE
            go_wp2
            go_roundg (gko - 1)
            case measure => omega
            case rel => exact ⟨a + 1, by omega, by go_num, HDN⟩
      · have hpm := hD.pm
        have HD1 := hide hD
        clear hD HD
        go_wp2_with fail
        refine (pick_any bs g _ _ _ HD1.out.rd (by omega)).mono ?_
        rintro e w7 ⟨r7, rfl, ⟨h70, h71⟩, R7, hg7⟩
        have HD7 := hide (HD1.out.pick hg7 R7 hgl hgT)
        clear HD1 hg7 R7 h71 c0
        by_cases h7 : r7 = 0
        · have e7 : (r7 == 0) = true := by simp [h7]
          clear h7
          obtain ⟨A8, k8, rfl, _, _⟩ := HD7.out.o.lit
          have hb8 := below1 w7 (Obj.cells #[] 64)
          have HD8 := hide (HD7.out.below hb8)
          have HO8 : Hid (Own lc 64 3 (w7.alloc (Obj.cells #[] 64)) w.heap.size (.slice (some ⟨w7.heap.size, 0, none⟩) 0 0) []) := hide (ownE w7 _ HD7.out.fr.size)
          have c0 := HD8.out.bt.cell 0
          have c1 := HD8.out.bt.cell 1
          have z0 := HD8.out.bt.free 0
          have z1 := HD8.out.bt.free 1
          go_upto_region 16 with fail
          obtain ⟨w9, hw9⟩ : ∃ w9, w9 = ((w7.alloc (Obj.cells #[] 64)).setCell ⟨T, 0, none⟩ (.int .i64 1)).setCell ⟨T, 1, none⟩ (.slice (some ⟨w7.heap.size, 0, none⟩) 0 0) := ⟨_, rfl⟩
          have HD9 : Hid (DG w g T bs (p + 4 + 100 * a + 1) 1 w9 (q + 1) (.slice (some ⟨w7.heap.size, 0, none⟩) 0 0) []) := hide (by
            rw [hw9]
            have n1 := own_blk_ne HO8.out HD8.out.bt (by decide)
            exact ⟨(HD8.out.rd.far (by simp; omega) _).far (by simp; omega) _, HD8.out.pm, (HD8.out.bt.put 0 _).put 1 _, (HD8.out.bo.far (by simp; omega) _).far (by simp; omega) _, own_far' (own_far' HO8.out n1 _) n1 _, by simp,
              only_setCell (only_setCell HD8.out.fr (.inr (by simp; omega)) _) (.inr (by simp; omega)) _⟩)
          rw [← hw9]
          clear hw9 HD7 HD8 HO8 c0 c1 z0 z1
          have hD := HD9.out
          have hpe := hD.pm
          have o0 := hD.bo.cell 0
          have o1 := hD.bo.cell 1
          have y0 := hD.bo.free 0
          have y1 := hD.bo.free 1
          have tq0 := hD.bt.cell 0
          have tq1 := hD.bt.cell 1
          have HDF := hide hD
          clear hD
          go_wp2_with fail
          refine bodyPost_ret (v := .agg #[.int .i64 (1), .slice (some ⟨w7.heap.size, 0, none⟩) 0 0]) (by simp [results, Try.results90, go_sem, o0, o1]) rfl ⟨_, ⟨1, []⟩, _, rfl, ⟨_, rfl, own_far' (own_far' HDF.out.o (own_blk_ne HDF.out.o HDF.out.bo (by decide)) _) (own_blk_ne HDF.out.o HDF.out.bo (by decide)) _⟩, HDF.out.l, (HDF.out.rd.far (by simp; omega) _).far (by simp; omega) _, by omega, only_setCell (only_setCell HDF.out.fr (.inr (Nat.le_refl _)) _) (.inr (Nat.le_refl _)) _⟩
        · have e7 : (r7 == 0) = false := by simp [h7]
          clear h7
          obtain ⟨Ae, ce, rfl, _, _⟩ := HD7.out.o.lit
          have hD := HD7.out
          have hpe := hD.pm
          have o0 := hD.bo.cell 0
          have o1 := hD.bo.cell 1
          have y0 := hD.bo.free 0
          have y1 := hD.bo.free 1
          have tq0 := hD.bt.cell 0
          have tq1 := hD.bt.cell 1
          have HDF := hide hD
          clear hD
          go_wp2_with fail
          refine bodyPost_ret (v := .agg #[.int .i64 ((M : Int)), .slice Ae ls.length ce]) (by simp [results, Try.results90, go_sem, o0, o1]) rfl ⟨_, ⟨(M : Int), ls⟩, _, rfl, ⟨_, rfl, own_far' (own_far' HDF.out.o (own_blk_ne HDF.out.o HDF.out.bo (by decide)) _) (own_blk_ne HDF.out.o HDF.out.bo (by decide)) _⟩, HDF.out.l, (HDF.out.rd.far (by simp; omega) _).far (by simp; omega) _, by omega, only_setCell (only_setCell HDF.out.fr (.inr (Nat.le_refl _)) _) (.inr (Nat.le_refl _)) _⟩
  · have HD2 : Hid (DG w g T bs (p + 1 + 1 + 1) (N : Int) w2 (p + 1 + 1) (.slice (some ⟨w1.heap.size, 0, none⟩) 0 0) []) := hide (HDx.out.more (by omega))
    clear HDx
    go_upto_region 4 with fail
    go_wp2_with fail
    refine (pick_any bs g _ _ _ HD2.out.rd (by have := HD2.out.pm; omega)).mono ?_
    rintro e w4 ⟨r4, rfl, ⟨h40, h41⟩, R4, hg4⟩
    have h42 := h41 (by omega)
    have HD4 : Hid (DGe w g T bs (p + 4 + 100 * 0) (N : Int) w4) := hide (DGe.more ⟨_, _, _, HD2.out.pick hg4 R4 hgl hgT⟩ (by omega))
    clear HD2 hg4 R4 h41
    go_wp2
    go_loopg [5] (N) (fun gg iv wr => ∃ a : Nat, a + gg = N ∧ iv = .int .i64 a ∧ Hid (DGe w g T bs (p + 4 + 100 * a) (N : Int) wr))
    case atStart => exact ⟨0, by omega, rfl, HD4⟩
    case round =>
      obtain ⟨a, ha, rfl, HD⟩ := hrel
      obtain ⟨q, v2, ls, hD⟩ := HD.out
      clear HD4
      have c0 := hD.bt.cell 0
      by_cases hlt : a < N
      · clear hD
        obtain ⟨wo, hwo⟩ : ∃ wo, wo = wr := ⟨_, rfl⟩
        subst hwo
        obtain ⟨gko, hgko⟩ : ∃ z, z = gk := ⟨_, rfl⟩
        subst hgko
        go_wp2
        clear c0
        go_loopg [6] (N - (a + 1)) (fun gg iv wr => ∃ b : Nat, b + gg = N ∧ a + 1 ≤ b ∧ iv = .int .i64 b ∧ Hid (DGe w g T bs (p + 4 + 100 * a + 10 * b) (N : Int) wr))
        case atStart => exact ⟨a + 1, by omega, by omega, by go_num, hide (HD.out.more (by omega))⟩
        case round =>
          obtain ⟨b, hb, hab, rfl, HE⟩ := hrel
          obtain ⟨q1, x2, ls1, hD⟩ := HE.out
          clear HD
          have c0 := hD.bt.cell 0
          by_cases hlt2 : b < N
          · obtain ⟨A1, k1, rfl, _, _⟩ := hD.o.lit
            have c1 := hD.bt.cell 1
            have hq1 := hD.pm
            have hl14 := hD.l
            have HD1 := hide hD
            clear hD HE
            go_upto_region 11 with fail
            go_cut [7] (fun s wx => ∃ bb : Bool, s = .bool bb ∧ wx = wr)
            case first =>
              by_cases e1 : b = a + 1
              · have p1 : ((b : Int) == (a : Int) + 1) = true := by simp [e1]
                clear e1
                go_wp2_with fail
                go_meet
                exact ⟨_, rfl, rfl⟩
              · have p1 : ((b : Int) == (a : Int) + 1) = false := by rw [beq_eq_false_iff_ne]; omega
                clear e1
                by_cases e2 : a = 0
                · have p2 : ((a : Int) == 0) = true := by simp [e2]
                  clear e2
                  go_wp2_with fail
                  go_meet
                  exact ⟨_, rfl, rfl⟩
                · have p2 : ((a : Int) == 0) = false := by rw [beq_eq_false_iff_ne]; omega
                  clear e2
                  go_wp2_with fail
                  go_meet
                  exact ⟨_, rfl, rfl⟩
            case rest =>
              obtain ⟨near, rfl, hwc⟩ := hcut
              subst hwc
              obtain ⟨wn, hwn⟩ : ∃ wn, wn = wc := ⟨_, rfl⟩
              subst hwn
              go_upto_region 12 with fail
              go_cut [69] (fun s wx => ∃ bb : Bool, ∃ q2, s = .bool bb ∧ (bb = true → ls1.length < 14) ∧ Hid (DG w g T bs (p + 4 + 100 * a + 10 * b + 2) (N : Int) wx q2 (.slice A1 ls1.length k1) ls1))
              case first =>
                by_cases hL : ls1.length < 14
                · cases near with
                  | true =>
                    go_wp2_with fail
                    refine (pick_any bs g _ _ _ HD1.out.rd (by omega)).mono ?_
                    rintro e w5 ⟨r5, rfl, ⟨h50, h51⟩, R5, hg5⟩
                    have HD5 := hide (HD1.out.pick hg5 R5 hgl hgT)
                    clear HD1 hg5 R5 h51 c0 c1
                    by_cases h5 : 0 < r5
                    · go_wp2_with fail
                      go_meet
                      exact ⟨_, _, rfl, fun _ => hL, hide (HD5.out.more (by omega))⟩
                    · go_wp2_with fail
                      refine (pick_any bs g _ _ _ HD5.out.rd (by omega)).mono ?_
                      rintro e w6 ⟨r6, rfl, ⟨h60, h61⟩, R6, hg6⟩
                      have HD6 := hide (HD5.out.pick hg6 R6 hgl hgT)
                      clear HD5 hg6 R6 h61
                      go_wp2_with fail
                      go_meet
                      exact ⟨_, _, rfl, fun _ => hL, HD6⟩
                  | false =>
                    go_wp2_with fail
                    refine (pick_any bs g _ _ _ HD1.out.rd (by omega)).mono ?_
                    rintro e w6 ⟨r6, rfl, ⟨h60, h61⟩, R6, hg6⟩
                    have HD6 := hide (HD1.out.pick hg6 R6 hgl hgT)
                    clear HD1 hg6 R6 h61 c0 c1
                    go_wp2_with fail
                    go_meet
                    exact ⟨_, _, rfl, fun _ => hL, hide (HD6.out.more (by omega))⟩
                · go_wp2_with fail
                  go_meet
                  exact ⟨_, _, rfl, fun h => (by cases h), hide (HD1.out.more (by omega))⟩
              case rest =>
                obtain ⟨bb, q2, rfl, hbb, HD2⟩ := hcut
                obtain ⟨wq, hwq⟩ : ∃ wq, wq = wc := ⟨_, rfl⟩
                subst hwq
                clear HD1 c0 c1
                have hq2 := HD2.out.pm
                cases bb with
                | false =>
                  have HDN : Hid (DGe w g T bs (p + 4 + 100 * a + 10 * (b + 1)) (N : Int) wq) := hide (DGe.more ⟨_, _, _, HD2.out⟩ (by omega))
                  clear HD2
                  go_wp2
                  go_roundg (gk - 1)
                  case measure => omega
                  case rel => exact ⟨b + 1, by omega, by omega, by go_num, HDN⟩
                | true =>
                  have hL := hbb rfl
                  clear hbb
                  have c1 := HD2.out.bt.cell 1
                  go_upto_region 13 with fail
                  go_region_law (first
                    | (go_simp; go_at_call 91; refine (pick_any bs g q2 _ _ ?_ ?_).mono ?_
                       · exact HD2.out.rd.drew
                       · omega
                       rintro e w3 ⟨r3, rfl, ⟨h30, h31⟩, R3, hg3⟩
                       have h32 := h31 (by omega)
                       have D3 := HD2.out.drew.pick hg3 R3 hgl hgT
                       have c13 := D3.bt.cell 1)
                    | (go_simp; go_at_call 91; refine (pick_any bs g (q2 + 1) _ _ ?_ ?_).mono ?_
                       · exact D3.rd
                       · omega
                       rintro e w4 ⟨r4', rfl, ⟨h40', h41'⟩, R4', hg4'⟩
                       have h42' := h41' (by omega)
                       have D4 := D3.pick hg4' R4' hgl hgT
                       have c14 := D4.bt.cell 1)
                    | (go_simp; go_at_call 91; refine (pick_any bs g (q2 + 1 + 1) _ _ ?_ ?_).mono ?_
                       · exact D4.rd
                       · omega
                       rintro e w5 ⟨r5, rfl, ⟨h50, h51⟩, R5, hg5⟩
                       have h52 := h51 (by omega)
                       have D5 := D4.pick hg5 R5 hgl hgT
                       have c15 := D5.bt.cell 1
                       have c16 := fun o => (D5.below (below1 w5 o)).bt.cell 1)
                    | (refine step_app (by rfl) infLk (.tmp 71) (.tmp 85) (by rfl) _ _ (by rfl) (by rfl) w.heap.size (w5.heap.size + 1) ls1 [⟨(a : Int), (b : Int), IntKind.i64.wrap (IntKind.i64.wrap (1 + r3) + IntKind.i64.wrap (IntKind.i64.wrap (r4'.tdiv 3) * r5))⟩] ?_ ?_ ?_ ?_ ?_
                       · exact D5.o.below (below1 _ _)
                       · exact slr_one (Blk.new w5 64 #[.int .i64 (a : Int), .int .i64 (b : Int), .int .i64 (IntKind.i64.wrap (IntKind.i64.wrap (1 + r3) + IntKind.i64.wrap (IntKind.i64.wrap (r4'.tdiv 3) * r5)))]) rfl (by omega)
                       · simp; omega
                       · have := D5.fr.size; simp; omega
                       intro A3 c3 w6 hO6 hg6 hat6
                       obtain ⟨D6, B6⟩ := (D5.below (below1 w5 (Obj.cells #[.int .i64 (a : Int), .int .i64 (b : Int), .int .i64 (IntKind.i64.wrap (IntKind.i64.wrap (1 + r3) + IntKind.i64.wrap (IntKind.i64.wrap (r4'.tdiv 3) * r5)))] 64))).app hg6 hO6 (by simp; omega) hgl hwT
                       have c17 := B6.cell 1
                       have z17 := B6.free 1)
                    | fail)
                  all_goals
                    have HDN : Hid (DGe w g T bs (p + 4 + 100 * a + 10 * (b + 1)) (N : Int) _) := hide (DGe.more ⟨_, _, _, D6⟩ (by omega))
                    clear D3 D4 D5 D6 B6 c13 c14 c15 c16 c17 z17 hO6 hg6 hat6 R3 hg3 R4' hg4' R5 hg5 c1 HD2
                    go_wp2
                    go_roundg (gk - 1)
                    case measure => omega
                    case rel => exact ⟨b + 1, by omega, by omega, by go_num, HDN⟩
          · have HDN : Hid (DGe w g T bs (p + 4 + 100 * (a + 1)) (N : Int) wr) := hide (HE.out.more (by omega))
            clear hD HE
            go_wp2
            go_roundg (gko - 1)
            case measure => omega
            case rel => exact ⟨a + 1, by omega, by go_num, HDN⟩
      · have hpm := hD.pm
        have HD1 := hide hD
        clear hD HD
        go_wp2_with fail
        refine (pick_any bs g _ _ _ HD1.out.rd (by omega)).mono ?_
        rintro e w7 ⟨r7, rfl, ⟨h70, h71⟩, R7, hg7⟩
        have HD7 := hide (HD1.out.pick hg7 R7 hgl hgT)
        clear HD1 hg7 R7 h71 c0
        by_cases h7 : r7 = 0
        · have e7 : (r7 == 0) = true := by simp [h7]
          clear h7
          obtain ⟨A8, k8, rfl, _, _⟩ := HD7.out.o.lit
          have hb8 := below1 w7 (Obj.cells #[] 64)
          have HD8 := hide (HD7.out.below hb8)
          have HO8 : Hid (Own lc 64 3 (w7.alloc (Obj.cells #[] 64)) w.heap.size (.slice (some ⟨w7.heap.size, 0, none⟩) 0 0) []) := hide (ownE w7 _ HD7.out.fr.size)
          have c0 := HD8.out.bt.cell 0
          have c1 := HD8.out.bt.cell 1
          have z0 := HD8.out.bt.free 0
          have z1 := HD8.out.bt.free 1
          go_upto_region 16 with fail
          obtain ⟨w9, hw9⟩ : ∃ w9, w9 = ((w7.alloc (Obj.cells #[] 64)).setCell ⟨T, 0, none⟩ (.int .i64 1)).setCell ⟨T, 1, none⟩ (.slice (some ⟨w7.heap.size, 0, none⟩) 0 0) := ⟨_, rfl⟩
          have HD9 : Hid (DG w g T bs (p + 4 + 100 * a + 1) 1 w9 (q + 1) (.slice (some ⟨w7.heap.size, 0, none⟩) 0 0) []) := hide (by
            rw [hw9]
            have n1 := own_blk_ne HO8.out HD8.out.bt (by decide)
            exact ⟨(HD8.out.rd.far (by simp; omega) _).far (by simp; omega) _, HD8.out.pm, (HD8.out.bt.put 0 _).put 1 _, (HD8.out.bo.far (by simp; omega) _).far (by simp; omega) _, own_far' (own_far' HO8.out n1 _) n1 _, by simp,
              only_setCell (only_setCell HD8.out.fr (.inr (by simp; omega)) _) (.inr (by simp; omega)) _⟩)
          rw [← hw9]
          clear hw9 HD7 HD8 HO8 c0 c1 z0 z1
          have hD := HD9.out
          have hpe := hD.pm
          have o0 := hD.bo.cell 0
          have o1 := hD.bo.cell 1
          have y0 := hD.bo.free 0
          have y1 := hD.bo.free 1
          have tq0 := hD.bt.cell 0
          have tq1 := hD.bt.cell 1
          have HDF := hide hD
          clear hD
          go_wp2_with fail
          refine bodyPost_ret (v := .agg #[.int .i64 (1), .slice (some ⟨w7.heap.size, 0, none⟩) 0 0]) (by simp [results, Try.results90, go_sem, o0, o1]) rfl ⟨_, ⟨1, []⟩, _, rfl, ⟨_, rfl, own_far' (own_far' HDF.out.o (own_blk_ne HDF.out.o HDF.out.bo (by decide)) _) (own_blk_ne HDF.out.o HDF.out.bo (by decide)) _⟩, HDF.out.l, (HDF.out.rd.far (by simp; omega) _).far (by simp; omega) _, by omega, only_setCell (only_setCell HDF.out.fr (.inr (Nat.le_refl _)) _) (.inr (Nat.le_refl _)) _⟩
        · have e7 : (r7 == 0) = false := by simp [h7]
          clear h7
          obtain ⟨Ae, ce, rfl, _, _⟩ := HD7.out.o.lit
          have hD := HD7.out
          have hpe := hD.pm
          have o0 := hD.bo.cell 0
          have o1 := hD.bo.cell 1
          have y0 := hD.bo.free 0
          have y1 := hD.bo.free 1
          have tq0 := hD.bt.cell 0
          have tq1 := hD.bt.cell 1
          have HDF := hide hD
          clear hD
          go_wp2_with fail
          refine bodyPost_ret (v := .agg #[.int .i64 ((N : Int)), .slice Ae ls.length ce]) (by simp [results, Try.results90, go_sem, o0, o1]) rfl ⟨_, ⟨(N : Int), ls⟩, _, rfl, ⟨_, rfl, own_far' (own_far' HDF.out.o (own_blk_ne HDF.out.o HDF.out.bo (by decide)) _) (own_blk_ne HDF.out.o HDF.out.bo (by decide)) _⟩, HDF.out.l, (HDF.out.rd.far (by simp; omega) _).far (by simp; omega) _, by omega, only_setCell (only_setCell HDF.out.fr (.inr (Nat.le_refl _)) _) (.inr (Nat.le_refl _)) _⟩
end Go.Proofs.Ytbhkjeicogjfbaa
